/- A layer of symbolic stepping over values, proved sound against the model: no statement of the seat is proved here. No condition. -/
import Derived.Calls
import Derived.Orders
import Derived.Laws.AppendOwn
import Derived.Laws.Entries
import Derived.Laws.Bits
import Derived.WalkKit
set_option linter.all false
namespace Go.Vs

/-- Is a slice nil? -/
inductive NF where
  | isnil | non | unk
  deriving DecidableEq

def NF.isNil : NF → Bool
  | .isnil => true
  | _ => false

/-- What a cell holds, in pure terms. -/
inductive AV where
  | v (x : Value)
  | sl (own : Bool) (nil : NF) (sz : Nat) (els : List (List AV))
  | bp (b off : Nat)
  | ep (sz : Nat) (els : List (List AV)) (i c : Nat)
  | cp (cells : List AV) (off : Nat)
  | clo (f : FuncId) (caps : List AV)
  | own (cells : List AV)
  | any

instance : Inhabited AV := ⟨.any⟩

mutual
def shc : AV → AV
  | .v x => .v x
  | .sl true n s els => .sl false n s (shcLL els)
  | .sl false n s els => .sl false n s els
  | .bp b o => .bp b o
  | .ep s els i c => .ep s els i c
  | .cp cs o => .cp cs o
  | .clo f caps => .clo f caps
  | .own _ => .any
  | .any => .any
def shcL : List AV → List AV
  | [] => []
  | a :: l => shc a :: shcL l
def shcLL : List (List AV) → List (List AV)
  | [] => []
  | a :: l => shcL a :: shcLL l
end

/-- Does the cell hold memory of its own? (At the top: what lies below a shared slice is shared.) -/
def AV.owns : AV → Bool
  | .sl o _ _ _ => o
  | .own _ => true
  | _ => false

inductive Rs where
  | sl (i : Nat)
  | bx (b : Nat)
  | ex (i : Nat)
  | ow (i : Nat)
  deriving DecidableEq

def Rs.eqb : Rs → Rs → Bool
  | .sl i, .sl j => Nat.beq i j
  | .bx i, .bx j => Nat.beq i j
  | .ex i, .ex j => Nat.beq i j
  | .ow i, .ow j => Nat.beq i j
  | _, _ => false

theorem Rs.eqb_iff {r s : Rs} : r.eqb s = true ↔ r = s := by
  cases r <;> cases s <;> simp [Rs.eqb]

theorem Rs.eqb_self (r : Rs) : r.eqb r = true := Rs.eqb_iff.2 rfl

theorem Rs.eqb_false {r s : Rs} : r.eqb s = false ↔ r ≠ s := by
  rw [← Bool.not_eq_true, Rs.eqb_iff]

abbrev Path := List (Nat × Nat)

inductive TV where
  | val (av : AV)
  | ref (r : Rs) (c : Nat) (ver : Nat × Nat) (path : Path)
  | eref (r : Rs) (c : Nat) (ver : Nat × Nat) (path : Path) (sz i k : Nat)

inductive Shape where
  | one
  | und
  | agg
  | tup (l : List (Bool × Nat))

/-- A header's version; where a path leads into the content: the content's too. -/
def verOk (v ver : Nat × Nat) : Path → Bool
  | [] => Nat.beq v.1 ver.1
  | _ :: _ => Nat.beq v.1 ver.1 && Nat.beq v.2 ver.2

def hUp (v : Nat × Nat) : Nat × Nat := (v.1 + 1, v.2)
def cUp (v : Nat × Nat) : Nat × Nat := (v.1, v.2 + 1)

/-- The state: the newest entry counts; an entry 'none' is dead (its version stays). -/
abbrev RV := (Nat × Nat) × Option (Shape × List TV)
abbrev St := List (Rs × RV)

def St.find (σ : St) (r : Rs) : Option RV :=
  match σ with
  | [] => none
  | (s, x) :: τ => bif s.eqb r then some x else St.find τ r

/-- The version and the content of a resource; where none: version 0, dead. -/
def St.get (σ : St) (r : Rs) : RV :=
  match σ.find r with
  | some x => x
  | none => ((0, 0), none)

def St.put (σ : St) (r : Rs) (x : RV) : St := (r, x) :: σ

theorem St.get_put_same (σ : St) (r : Rs) (x : RV) : (σ.put r x).get r = x := by
  simp [St.get, St.put, St.find, Rs.eqb_self]

theorem St.get_put_ne (σ : St) {r s : Rs} (x : RV) (h : r ≠ s) : (σ.put r x).get s = σ.get s := by
  have : r.eqb s = false := Rs.eqb_false.2 h
  simp [St.get, St.put, St.find, this]

theorem St.get_put (σ : St) (r s : Rs) (x : RV) : (σ.put r x).get s = if r = s then x else σ.get s := by
  split
  · rename_i h; subst h; exact St.get_put_same σ r x
  · rename_i h; exact St.get_put_ne σ x h

/-! ### Concrete sides -/

def shVal : Shape → List Value → Value
  | .one, [x] => x
  | .one, _ => undef
  | .und, _ => undef
  | .agg, vs => .agg vs.toArray
  | .tup l, vs => .tuple (go l vs).toArray
where
  go : List (Bool × Nat) → List Value → List Value
    | [], _ => []
    | (true, n) :: l, vs => .agg (vs.take n).toArray :: go l (vs.drop n)
    | (false, n) :: l, vs => (vs.headD undef) :: go l (vs.drop n)

def scalar : Value → Bool
  | .bool _ | .int _ _ | .string _ | .nilFunc | .nilIface => true
  | .pointer none => true
  | _ => false

/-- A row of cells in memory: 'cs' from offset 'o' of block 'g' on. -/
def Row (w : World) (g o : Nat) (cs : List Value) : Prop :=
  ∃ cur e fz, w.heap[g]? = some (.cells cur e fz) ∧ (cur.toList.drop o).take cs.length = cs

/-- 'Rep w β S as vs fp': the concrete cells 'vs' hold what 'as' says; shared memory lies in blocks of S; 'fp': the blocks that are owned. -/
inductive Rep (w : World) : (Nat → Option Nat) → (Nat → Prop) → List AV → List Value → List Nat → Prop
  | nil {β : Nat → Option Nat} {S : Nat → Prop} : Rep w β S [] [] []
  | v {β : Nat → Option Nat} {S : Nat → Prop} {x : Value} {as vs fp} (h : scalar x = true) (t : Rep w β S as vs fp) : Rep w β S (.v x :: as) (x :: vs) fp
  | any {β : Nat → Option Nat} {S : Nat → Prop} {x : Value} {as vs fp} (h : x.oneCell' = true) (t : Rep w β S as vs fp) : Rep w β S (.any :: as) (x :: vs) fp
  | bp {β : Nat → Option Nat} {S : Nat → Prop} {b off g : Nat} {as vs fp} (hb : β b = some g) (t : Rep w β S as vs fp) : Rep w β S (.bp b off :: as) (.pointer (some ⟨g, off, none⟩) :: vs) fp
  | nils {β : Nat → Option Nat} {S : Nat → Prop} {own : Bool} {nf : NF} {sz : Nat} {as vs fp} (hf : nf ≠ .non) (t : Rep w β S as vs fp) : Rep w β S (.sl own nf sz [] :: as) (.slice none 0 0 :: vs) fp
  | emp {β : Nat → Option Nat} {S : Nat → Prop} {nf : NF} {sz : Nat} {a : Addr} {cap : Nat} {as vs fp} (hf : nf ≠ .isnil) (hc : cap ≤ maxLen) (t : Rep w β S as vs fp) : Rep w β S (.sl false nf sz [] :: as) (.slice (some a) 0 cap :: vs) fp
  | shd {β : Nat → Option Nat} {S : Nat → Prop} {nf : NF} {sz g o n cap : Nat} {els : List (List AV)} {cs : List Value} {as vs fp}
      (hf : nf ≠ .isnil) (hg : S g) (hrow : Row w g o cs) (hn : els.length = n) (hsz : ∀ el ∈ els, el.length = sz) (hpos : 0 < sz) (hcap : n ≤ cap) (hmax : cap ≤ maxLen)
      (hin : Rep w (fun _ => none) S els.flatten cs []) (t : Rep w β S as vs fp) :
      Rep w β S (.sl false nf sz els :: as) (.slice (some ⟨g, o, none⟩) n cap :: vs) fp
  | owd {β : Nat → Option Nat} {S : Nat → Prop} {nf : NF} {sz g n cap : Nat} {els : List (List AV)} {cur : Array Value} {e : TypeId} {as vs fi fp}
      (hf : nf ≠ .isnil) (hg : w.heap[g]? = some (.cells cur e (0, 0))) (hn : els.length = n) (hsz : ∀ el ∈ els, el.length = sz) (hpos : 0 < sz) (hcap : n ≤ cap) (hmax : cap ≤ maxLen)
      (hcur : cap * sz ≤ cur.size) (hin : Rep w (fun _ => none) S els.flatten (cur.toList.take (n * sz)) fi) (t : Rep w β S as vs fp) :
      Rep w β S (.sl true nf sz els :: as) (.slice (some ⟨g, 0, none⟩) n cap :: vs) (g :: fi ++ fp)
  | ep {β : Nat → Option Nat} {S : Nat → Prop} {sz g o i c : Nat} {els : List (List AV)} {cs : List Value} {as vs fp}
      (hg : S g) (hrow : Row w g o cs) (hsz : ∀ el ∈ els, el.length = sz) (hi : i < els.length)
      (hin : Rep w (fun _ => none) S els.flatten cs []) (t : Rep w β S as vs fp) :
      Rep w β S (.ep sz els i c :: as) (.pointer (some ⟨g, o + i * sz + c, none⟩) :: vs) fp
  | cp {β : Nat → Option Nat} {S : Nat → Prop} {g o off : Nat} {cells : List AV} {cs : List Value} {as vs fp}
      (hg : S g) (hrow : Row w g o cs) (hin : Rep w (fun _ => none) S cells cs []) (t : Rep w β S as vs fp) :
      Rep w β S (.cp cells off :: as) (.pointer (some ⟨g, o + off, none⟩) :: vs) fp
  | clo {β : Nat → Option Nat} {S : Nat → Prop} {f : FuncId} {caps : List AV} {cvs : List Value} {as vs fp}
      (hin : Rep w β S caps cvs []) (t : Rep w β S as vs fp) :
      Rep w β S (.clo f caps :: as) (.func (.func f) #[] cvs.toArray :: vs) fp
  | own {β : Nat → Option Nat} {S : Nat → Prop} {g : Nat} {cells : List AV} {cur : Array Value} {e : TypeId} {as vs fi fp}
      (hg : w.heap[g]? = some (.cells cur e (0, 0))) (hin : Rep w (fun _ => none) S cells cur.toList fi) (t : Rep w β S as vs fp) :
      Rep w β S (.own cells :: as) (.pointer (some ⟨g, 0, none⟩) :: vs) (g :: fi ++ fp)

/-- The arguments of a call: shapes, cells. -/
abbrev Arg := Shape × List AV

inductive Reps (w : World) (S : Nat → Prop) : List Arg → List Value → List Nat → Prop
  | nil : Reps w S [] [] []
  | cons {s : Shape} {as : List AV} {vs : List Value} {fp : List Nat} {args vals fps}
      (h : Rep w (fun _ => none) S as vs fp) (t : Reps w S args vals fps) : Reps w S ((s, as) :: args) (shVal s vs :: vals) (fp ++ fps)

/-- What does not change but for the blocks that are lent out ('fp'), and the new ones. -/
structure Keeps (w w' : World) (fp : List Nat) : Prop where
  os : w'.os = w.os
  tape : w'.tape = w.tape
  output : w'.output = w.output
  size : w.heap.size ≤ w'.heap.size
  block : ∀ b, b < w.heap.size → b ∉ fp → w'.heap[b]? = w.heap[b]?

/-! ### Less is said: whether a slice is nil is forgotten -/

inductive WkL : List AV → List AV → Prop
  | nil : WkL [] []
  | keep {a : AV} {as bs : List AV} (h : WkL as bs) : WkL (a :: as) (a :: bs)
  | nils {o : Bool} {s s' : Nat} {as bs : List AV} (h : WkL as bs) : WkL (.sl o .isnil s [] :: as) (.sl o .unk s' [] :: bs)
  | sl {o : Bool} {n n' : NF} {s : Nat} {els els' : List (List AV)} {as bs : List AV} (hn : n' = n ∨ n' = .unk) (hl : els'.length = els.length) (hs : ∀ el ∈ els', el.length = s)
      (hin : WkL els.flatten els'.flatten) (h : WkL as bs) : WkL (.sl o n s els :: as) (.sl o n' s els' :: bs)
  | top {o : Bool} {n : NF} {s : Nat} {els : List (List AV)} {as bs : List AV} (h : WkL as bs) : WkL (.sl o n s els :: as) (.sl o .unk s els :: bs)

/-- .. and what was owned is shared. -/
def WkR (r r' : Arg) : Prop := r.1 = r'.1 ∧ (WkL r.2 r'.2 ∨ WkL (shcL r.2) r'.2)

inductive WkA : List Arg → List Arg → Prop
  | nil : WkA [] []
  | cons {s : Shape} {as bs : List AV} {l m : List Arg} (h : WkL as bs) (t : WkA l m) : WkA ((s, as) :: l) ((s, bs) :: m)

/-- .. at the top alone. -/
inductive WkT : List TV → List TV → Prop
  | nil : WkT [] []
  | keep {t : TV} {l m : List TV} (h : WkT l m) : WkT (t :: l) (t :: m)
  | nils {o : Bool} {s s' : Nat} {l m : List TV} (h : WkT l m) : WkT (.val (.sl o .isnil s []) :: l) (.val (.sl o .unk s' []) :: m)
  | top {o : Bool} {n : NF} {s : Nat} {els : List (List AV)} {l m : List TV} (h : WkT l m) : WkT (.val (.sl o n s els) :: l) (.val (.sl o .unk s els) :: m)

inductive WkS : St → St → Prop
  | nil : WkS [] []
  | cons {r : Rs} {v : Nat × Nat} {s : Shape} {tvs tvs' : List TV} {σ τ : St} (h : WkT tvs tvs') (t : WkS σ τ) : WkS ((r, (v, some (s, tvs))) :: σ) ((r, (v, some (s, tvs'))) :: τ)

theorem WkL.refl : ∀ (l : List AV), WkL l l
  | [] => .nil
  | _ :: l => .keep (WkL.refl l)

theorem WkA.refl : ∀ (l : List Arg), WkA l l
  | [] => .nil
  | (_, as) :: l => .cons (WkL.refl as) (WkA.refl l)

theorem WkT.refl : ∀ (l : List TV), WkT l l
  | [] => .nil
  | _ :: l => .keep (WkT.refl l)

theorem WkR.refl (r : Arg) : WkR r r := ⟨rfl, .inl (WkL.refl _)⟩
theorem WkR.of {s : Shape} {as bs : List AV} (h : WkL as bs) : WkR (s, as) (s, bs) := ⟨rfl, .inl h⟩
theorem WkR.eq {s : Shape} {as bs : List AV} (h : as = bs) : WkR (s, as) (s, bs) := h ▸ WkR.refl _

/-- What a call looks for. -/
def FnOk (P : Program) (f : FuncId) : Prop := ∃ fn c, P.funcs[f]? = some fn ∧ fn.body = some c ∧ (fn.name == "runtime.NumGoroutine") = false

def shapeFit : Shape → Nat → Prop
  | .one, n => n = 1
  | .und, n => n = 0
  | .agg, _ => True
  | .tup l, n => tupSum l = n ∧ ∀ g k, (g, k) ∈ l → g = false → k = 1
where
  tupSum : List (Bool × Nat) → Nat
    | [] => 0
    | (_, n) :: l => n + tupSum l

def FPost (w : World) (S : Nat → Prop) (vals : List Value) (fp : List Nat) (outs : List Arg) (res : Arg) (e : Ending) (w' : World) : Prop :=
  ∃ rvs fpr fp', e = .returned (shVal res.1 rvs) ∧ shapeFit res.1 res.2.length ∧ Keeps w w' fp ∧
      (fpr ++ fp').Nodup ∧ (∀ b ∈ fpr ++ fp', (b ∈ fp ∨ w.heap.size ≤ b) ∧ b < w'.heap.size) ∧
      Rep w' (fun _ => none) (fun b => (S b ∨ b ∈ fp ∨ w.heap.size ≤ b) ∧ b < w'.heap.size ∧ b ∉ fpr ++ fp') res.2 rvs fpr ∧
      Reps w' (fun b => (S b ∨ b ∈ fp ∨ w.heap.size ≤ b) ∧ b < w'.heap.size ∧ b ∉ fpr ++ fp') outs vals fp'

/-- The table of tens that a program's numerals are written by, if it has one; it lies among what is shared. -/
def pow10s : Array Value := ((List.range 20).map fun i => Value.int .u64 (10 ^ i)).toArray
def tabOf (P : Program) : Option (Nat × Array Value) := (P.globalNamed "internal/strconv.uint64pow10").map fun g => (g, pow10s)
def Gl (P : Program) (w : World) (S : Nat → Prop) : Prop := ∀ g cs, tabOf P = some (g, cs) → S g ∧ ∃ t fz, w.heap[g]? = some (.cells cs t fz)

/-- THE CONTRACT OF A FUNCTION at given arguments: it returns, its result reads as 'res', the arguments that were lent read as 'outs'. -/
def FOk (P : Program) (f : FuncId) (args : List Arg) (outs : List Arg) (res : Arg) : Prop :=
  FnOk P f ∧ ∀ (w : World) (S : Nat → Prop) (vals : List Value) (fp : List Nat),
    (∀ b, S b → b < w.heap.size ∧ b ∉ fp) → fp.Nodup → (∀ b ∈ fp, b < w.heap.size) → Reps w S args vals fp → Gl P w S →
    Calls P f vals.toArray w (FPost w S vals fp outs res)

end Go.Vs

namespace Go.Vs

/-! ### The types, as a small table -/

inductive TyK where
  | bool | int (k : IntKind) | string
  | slice (elem : TypeId)
  | struct (fs : List (Nat × Nat × Bool))   -- offset, size, is it an aggregate
  | other

structure TyI where
  kind : TyK
  size : Nat
  bytes : Nat
  zero : List Value

structure Env where
  ty : List (Nat × TyI)
  io : List (Nat × List Nat)     -- functions to which arguments are lent
  esc : List Nat := []           -- types whose boxes are owned cells from their birth

def findNat {α : Type} : List (Nat × α) → Nat → Option α
  | [], _ => none
  | (k, x) :: l, n => bif Nat.beq k n then some x else findNat l n

def hasNat : List Nat → Nat → Bool
  | [], _ => false
  | k :: l, n => Nat.beq k n || hasNat l n

structure CallR where
  outs : List Arg
  res : Arg

inductive Pr (α : Type) : Type where
  | ret (a : α)
  | fail
  | get (r : Rs) (k : RV → Pr α)
  | put (r : Rs) (x : RV) (k : Pr α)
  | req (p : Prop) (k : Pr α)
  | br (b : Bool) (t f : Pr α)
  | nm (x : Int) (k : Int → Pr α)
  | elt (x : Option (List AV)) (k : List AV → Pr α)
  | call (f : FuncId) (args : List Arg) (k : CallR → Pr α)

namespace Pr
def bind {α β : Type} : Pr α → (α → Pr β) → Pr β
  | .ret a, f => f a
  | .fail, _ => .fail
  | .get r k, f => .get r fun x => (k x).bind f
  | .put r x k, f => .put r x (k.bind f)
  | .req p k, f => .req p (k.bind f)
  | .br b x y, f => .br b (x.bind f) (y.bind f)
  | .nm x k, f => .nm x fun m => (k m).bind f
  | .elt x k, f => .elt x fun m => (k m).bind f
  | .call g args k, f => .call g args fun r => (k r).bind f

def rd (r : Rs) : Pr RV := .get r .ret
def wr (r : Rs) (x : RV) : Pr Unit := .put r x (.ret ())
end Pr

instance : Monad Pr where
  pure := Pr.ret
  bind := Pr.bind

abbrev Log := List (Bool × Rs)

structure Br (b : Bool) (X Y : Prop) : Prop where
  intro ::
  pos' : b = true → X
  neg' : b = false → Y
structure Rq (p : Prop) (X : Prop) : Prop where
  intro ::
  req : p
  rest : X
inductive Nm (x : Int) (F : Int → Prop) : Prop
  | intro (m : Int) (h : x = m) (h1 : F m)
inductive El (x : Option (List AV)) (F : List AV → Prop) : Prop
  | intro (m : List AV) (h : x = some m) (h1 : F m)
inductive Cl (P : Program) (f : FuncId) (args : List Arg) (F : CallR → Prop) : Prop
  | intro (cr : CallR) (h : FOk P f args cr.outs cr.res) (h1 : F cr)

theorem Br.mk {b : Bool} {X Y : Prop} (h1 : b = true → X) (h2 : b = false → Y) : Br b X Y := ⟨h1, h2⟩
theorem Br.pos {b : Bool} {X Y : Prop} (h : b = true) (h1 : X) : Br b X Y := ⟨fun _ => h1, fun h' => absurd (h.symm.trans h') (by decide)⟩
theorem Br.neg {b : Bool} {X Y : Prop} (h : b = false) (h1 : Y) : Br b X Y := ⟨fun h' => absurd (h.symm.trans h') (by decide), fun _ => h1⟩
theorem Br.dec {p : Prop} [Decidable p] {X Y : Prop} (h1 : p → X) (h2 : ¬p → Y) : Br (decide p) X Y :=
  ⟨fun h => h1 (of_decide_eq_true h), fun h => h2 (of_decide_eq_false h)⟩
theorem Rq.mk {p X : Prop} (h : p) (h1 : X) : Rq p X := ⟨h, h1⟩
theorem Nm.mk {x m : Int} {F : Int → Prop} (h : x = m) (h1 : F m) : Nm x F := ⟨m, h, h1⟩
theorem El.mk {x : Option (List AV)} {m : List AV} {F : List AV → Prop} (h : x = some m) (h1 : F m) : El x F := ⟨m, h, h1⟩
theorem Cl.mk {P : Program} {f : FuncId} {args outs : List Arg} {res : Arg} {F : CallR → Prop} (h : FOk P f args outs res) (h1 : F ⟨outs, res⟩) : Cl P f args F := ⟨⟨outs, res⟩, h, h1⟩

/-! Values are laid into the state in normal form: what is read of them often is reckoned once. -/

def fV {α : Type} (x : Value) (k : Value → α) : α := match x with
  | .int a b => k (.int a b)
  | .bool b => k (.bool b)
  | .string s => k (.string s)
  | y => k y

def fAV {α : Type} (x : AV) (k : AV → α) : α := match x with
  | .v y => fV y fun z => k (.v z)
  | .sl o n s els => k (.sl o n s els)
  | .bp b off => k (.bp b off)
  | y => k y

def fTV {α : Type} (x : TV) (k : TV → α) : α := match x with
  | .val a => fAV a fun b => k (.val b)
  | .ref r c ver p => k (.ref r c ver p)
  | .eref r c ver p sz i j => k (.eref r c ver p sz i j)

def fTVs {α : Type} : List TV → (List TV → α) → α
  | [], k => k []
  | t :: l, k => fTV t fun u => fTVs l fun m => k (u :: m)

def fSh {α : Type} (s : Shape) (k : Shape → α) : α := match s with
  | .one => k .one
  | .und => k .und
  | .agg => k .agg
  | .tup l => k (.tup l)

def fRV {α : Type} (x : RV) (k : RV → α) : α := match x with
  | (v, some (s, tvs)) => fSh s fun s' => fTVs tvs fun tvs' => k (v, some (s', tvs'))
  | (v, none) => k (v, none)

theorem fV_eq {α : Type} (x : Value) (k : Value → α) : fV x k = k x := by cases x <;> rfl
theorem fAV_eq {α : Type} (x : AV) (k : AV → α) : fAV x k = k x := by
  cases x with
  | v y => rw [fAV, fV_eq]
  | _ => rfl
theorem fTV_eq {α : Type} (x : TV) (k : TV → α) : fTV x k = k x := by
  cases x with
  | val a => rw [fTV, fAV_eq]
  | _ => rfl
theorem fTVs_eq {α : Type} : ∀ (l : List TV) (k : List TV → α), fTVs l k = k l
  | [], k => rfl
  | t :: l, k => by rw [fTVs, fTV_eq, fTVs_eq l]
theorem fSh_eq {α : Type} (s : Shape) (k : Shape → α) : fSh s k = k s := by cases s <;> rfl
theorem fRV_eq {α : Type} (x : RV) (k : RV → α) : fRV x k = k x := by
  obtain ⟨v, o⟩ := x
  cases o with
  | none => rfl
  | some y =>
    obtain ⟨s, tvs⟩ := y
    rw [fRV, fSh_eq, fTVs_eq]

def fAVs {α : Type} : List AV → (List AV → α) → α
  | [], k => k []
  | a :: l, k => fAV a fun b => fAVs l fun m => k (b :: m)

def fArgs {α : Type} : List Arg → (List Arg → α) → α
  | [], k => k []
  | (s, as) :: l, k => fSh s fun s' => fAVs as fun as' => fArgs l fun m => k ((s', as') :: m)

theorem fAVs_eq {α : Type} : ∀ (l : List AV) (k : List AV → α), fAVs l k = k l
  | [], k => rfl
  | t :: l, k => by rw [fAVs, fAV_eq, fAVs_eq l]
theorem fArgs_eq {α : Type} : ∀ (l : List Arg) (k : List Arg → α), fArgs l k = k l
  | [], k => rfl
  | (s, as) :: l, k => by rw [fArgs, fSh_eq, fAVs_eq, fArgs_eq l]

/-- Symbolic stepping where nothing is called. -/
def Pr.sat0 {α : Type} : Pr α → St → Log → (α → St → Log → Prop) → Prop
  | .ret a, σ, lg, Q => Q a σ lg
  | .fail, _, _, _ => False
  | .get r k, σ, lg, Q => (k (σ.get r)).sat0 σ ((false, r) :: lg) Q
  | .put r x k, σ, lg, Q => fRV x fun x' => k.sat0 (σ.put r x') ((true, r) :: lg) Q
  | .req p k, σ, lg, Q => Rq p (k.sat0 σ lg Q)
  | .br b x y, σ, lg, Q => Br b (x.sat0 σ lg Q) (y.sat0 σ lg Q)
  | .nm x k, σ, lg, Q => Nm x fun m => (k m).sat0 σ lg Q
  | .elt x k, σ, lg, Q => El x fun m => (k m).sat0 σ lg Q
  | .call _ _ _, _, _, _ => False

/-- Symbolic stepping: what has to be shown. -/
def Pr.sat (P : Program) {α : Type} : Pr α → St → Log → (α → St → Log → Prop) → Prop
  | .ret a, σ, lg, Q => Q a σ lg
  | .fail, _, _, _ => False
  | .get r k, σ, lg, Q => (k (σ.get r)).sat P σ ((false, r) :: lg) Q
  | .put r x k, σ, lg, Q => fRV x fun x' => k.sat P (σ.put r x') ((true, r) :: lg) Q
  | .req p k, σ, lg, Q => Rq p (k.sat P σ lg Q)
  | .br b x y, σ, lg, Q => Br b (x.sat P σ lg Q) (y.sat P σ lg Q)
  | .nm x k, σ, lg, Q => Nm x fun m => (k m).sat P σ lg Q
  | .elt x k, σ, lg, Q => El x fun m => (k m).sat P σ lg Q
  | .call f args k, σ, lg, Q => fArgs args fun args' => Cl P f args' fun cr => (k cr).sat0 σ lg Q

open Classical in
/-- The run, the results of calls being given. -/
noncomputable def Pr.run (P : Program) (cr : CallR) {α : Type} : Pr α → St → Option (α × St × Log)
  | .ret a, σ => some (a, σ, [])
  | .fail, _ => none
  | .get r k, σ => ((k (σ.get r)).run P cr σ).map fun (a, τ, l) => (a, τ, l ++ [(false, r)])
  | .put r x k, σ => (k.run P cr (σ.put r x)).map fun (a, τ, l) => (a, τ, l ++ [(true, r)])
  | .req p k, σ => if p then k.run P cr σ else none
  | .br b x y, σ => if b then x.run P cr σ else y.run P cr σ
  | .nm x k, σ => (k x).run P cr σ
  | .elt x k, σ => match x with
    | some m => (k m).run P cr σ
    | none => none
  | .call f args k, σ => if FOk P f args cr.outs cr.res then (k cr).run P cr σ else none

/-! ### Reading and taking -/

def viewOf (r : Rs) (ver : Nat × Nat) (c : Nat) : TV → TV
  | .val av => match av.owns with
    | true => .ref r c ver []
    | false => .val av
  | x => x

def viewTV (r : Rs) (ver : Nat × Nat) : Nat → List TV → List TV
  | _, [] => []
  | c, x :: l => viewOf r ver c x :: viewTV r ver (c + 1) l

def constTV : Value → Option TV
  | .slice none 0 0 => some (.val (.sl true .isnil 0 []))
  | .int k n => some (.val (.v (.int k n)))
  | .bool b => some (.val (.v (.bool b)))
  | .string s => some (.val (.v (.string s)))
  | .nilFunc => some (.val (.v .nilFunc))
  | .nilIface => some (.val (.v .nilIface))
  | .pointer none => some (.val (.v (.pointer none)))
  | _ => none

def constTVs : List Value → Option (List TV)
  | [] => some []
  | x :: l => match constTV x, constTVs l with
    | some t, some ts => some (t :: ts)
    | _, _ => none

/-- An operand: the view of its content. -/
def rdOp : Operand → Pr (Shape × List TV)
  | .tmp t => .get (.sl t) fun x => match x with
    | (ver, some (s, tvs)) => .ret (s, viewTV (.sl t) ver 0 tvs)
    | _ => .fail
  | .const x => match constTV x with
    | some t => .ret (.one, [t])
    | none => .fail
  | .func f => .ret (.one, [.val (.clo f [])])
  | .global _ => .fail

/-- The content at a place. -/
def nav : AV → Path → Pr AV
  | a, [] => .ret a
  | .sl o _ _ els, (i, k) :: p => match o with
    | true => .elt els[i]? fun el => match el[k]? with
      | some a => nav a p
      | none => .fail
    | false => .fail
  | _, _ => .fail

def content (r : Rs) (c : Nat) (ver : Nat × Nat) (p : Path) : Pr AV :=
  .get r fun x => match x with
    | (v, some (_, tvs)) => match verOk v ver p with
      | true => match tvs[c]? with
        | some (.val a) => nav a p
        | _ => .fail
      | false => .fail
    | _ => .fail

/-- A view's content, shared. -/
def isPtr : AV → Bool
  | .bp _ _ => true
  | .clo _ _ => true
  | _ => false

def isSl : AV → Bool
  | .sl _ _ _ _ => true
  | _ => false

/-- What may be lent. -/
def isLd : AV → Bool
  | .sl _ _ _ _ => true
  | .own _ => true
  | .any => true
  | _ => false

/-- What may stand in a slice. -/
def okCell : AV → Bool
  | .v _ => true
  | .sl _ _ _ _ => true
  | .own _ => true
  | _ => false

def okCells : List AV → Bool
  | [] => true
  | a :: l => okCell a && okCells l

def chk (b : Bool) {α : Type} (k : Pr α) : Pr α := match b with | true => k | false => .fail

def share : TV → Pr AV
  | .val a => chk (!isPtr a) (.ret (shc a))
  | .ref r c ver p => do
    let a ← content r c ver p
    chk (isSl a) (.ret (shc a))
  | .eref .. => .fail

def shares : List TV → Pr (List AV)
  | [] => .ret []
  | t :: l => do
    let a ← share t
    let as ← shares l
    .ret (a :: as)

def isEx : Rs → Bool
  | .ex _ => true
  | _ => false

/-- A view's content, its ownership with it: what it was taken from is dead. -/
def takeRef (r : Rs) (c : Nat) (ver : Nat × Nat) : Pr AV :=
  .get r fun x => match x with
    | (v, some (s, tvs)) => match verOk v ver [] with
      | true => match tvs[c]? with
        | some (.val a) => .put r (cUp v, some (s, tvs.set c (.val .any))) (.ret a)
        | _ => .fail
      | false => .fail
    | _ => .fail

/-- To be laid into a place: the owner moves; what cannot be moved stays a view. -/
def take : TV → Pr TV
  | .val a => .ret (.val a)
  | .ref r c ver [] => match isEx r with
    | true => .ret (.ref r c ver [])
    | false => do
      let a ← takeRef r c ver
      .ret (.val a)
  | .ref r c ver (x :: p) => .ret (.ref r c ver (x :: p))
  | .eref r c ver p sz i k => chk (Nat.beq sz 0) (.ret (.eref r c ver p sz i k))

def takes : List TV → Pr (List TV)
  | [] => .ret []
  | t :: l => do
    let a ← take t
    let as ← takes l
    .ret (a :: as)

def vals : List TV → Pr (List AV)
  | [] => .ret []
  | .val a :: l => do
    let as ← vals l
    .ret (a :: as)
  | _ :: _ => .fail

def one (s : Shape) (l : List TV) : Pr TV :=
  match s, l with
  | .one, [t] => .ret t
  | _, _ => .fail

def rdOne (x : Operand) : Pr TV := do
  let (s, l) ← rdOp x
  one s l

def rdV (x : Operand) : Pr Value := do
  let t ← rdOne x
  match t with
  | .val (.v a) => .ret a
  | _ => .fail

def rdInt (x : Operand) : Pr (IntKind × Int) := do
  let a ← rdV x
  match a with
  | .int k n => .ret (k, n)
  | _ => .fail

def setSl (d : Option Tmp) (s : Shape) (tvs : List TV) : Pr Unit :=
  match d with
  | none => .ret ()
  | some d => .get (.sl d) fun x => match x with
    | (v, none) => .put (.sl d) (v, some (s, tvs)) (.ret ())
    | (v, some _) => .put (.sl d) (hUp v, some (s, tvs)) (.ret ())

/-- An owned box is laid aside; the slot views it. -/
def setOwn (d : Option Tmp) (s : Shape) (ts : List TV) : Pr Unit :=
  match d, s, ts with
  | some d, .one, [.val (.own cs)] => .get (.ow d) fun z => match z with
    | (v, none) => .put (.ow d) (v, some (.one, [.val (.own cs)])) (setSl (some d) .one [.ref (.ow d) 0 v []])
    | _ => .fail
  | _, _, _ => setSl d s ts

def setV (d : Option Tmp) (x : Value) : Pr Unit := setSl d .one [.val (.v x)]

/-! ### Types -/

def Env.find (Γ : Env) (t : TypeId) : Option TyI := findNat Γ.ty t

def withTy (Γ : Env) (t : TypeId) {α : Type} (k : TyI → Pr α) : Pr α :=
  match Γ.find t with
  | some i => k i
  | none => .fail

def TyI.shape (i : TyI) : Shape := match i.kind with | .struct _ => .agg | _ => .one

def withElem (Γ : Env) (t : TypeId) {α : Type} (k : TyI → Pr α) : Pr α :=
  withTy Γ t fun i => match i.kind with
    | .slice e => withTy Γ e k
    | _ => .fail

def sliceTV (l : List TV) (off n : Nat) : List TV := (l.drop off).take n

def szB (i : TyI) : Bool := match i.kind with
  | .struct _ => true
  | _ => Nat.beq i.size 1

def notTup : Shape → Bool
  | .tup _ => false
  | .und => false
  | _ => true

def spliceTV (l : List TV) (off : Nat) (news : List TV) : List TV := l.take off ++ news ++ l.drop (off + news.length)

def spliceAV (l : List AV) (off : Nat) (news : List AV) : List AV := l.take off ++ news ++ l.drop (off + news.length)

def anyOwns : List AV → Bool
  | [] => false
  | a :: l => a.owns || anyOwns l

def elOf (r : Rs) (c : Nat) (ver : Nat × Nat) (p : Path) (i k : Nat) (a : AV) : TV :=
  match a.owns with
  | true => .ref r c ver (p ++ [(i, k)])
  | false => .val a

def elCells (r : Rs) (c : Nat) (ver : Nat × Nat) (p : Path) (i : Nat) : Nat → List AV → List TV
  | _, [] => []
  | k, a :: l => elOf r c ver p i k a :: elCells r c ver p i (k + 1) l

def shVals : List AV → List TV
  | [] => []
  | a :: l => .val (shc a) :: shVals l

/-! ### Loads and stores -/

def loadTV (i : TyI) (t : TV) : Pr (Shape × List TV) :=
  match t with
  | .val (.bp b off) => .get (.bx b) fun x => match x with
    | (ver, some (_, tvs)) => chk (Nat.beq (viewTV (.bx b) ver off (sliceTV tvs off i.size)).length i.size) (.ret (i.shape, viewTV (.bx b) ver off (sliceTV tvs off i.size)))
    | _ => .fail
  | .val (.ep _ els j c) => .elt els[j]? fun el => chk (Nat.beq ((el.drop c).take i.size).length i.size) (.ret (i.shape, shVals ((el.drop c).take i.size)))
  | .val (.cp cells off) => chk (Nat.beq ((cells.drop off).take i.size).length i.size) (.ret (i.shape, shVals ((cells.drop off).take i.size)))
  | .eref r c ver p sz j k => chk (Nat.blt 0 sz) <| do
    let a ← content r c ver p
    match a with
    | .sl true _ s els => chk (Nat.beq s sz) <| .elt els[j]? fun el => chk (Nat.beq ((el.drop k).take i.size).length i.size) (.ret (i.shape, elCells r c ver p j k ((el.drop k).take i.size)))
    | _ => .fail
  | _ => .fail

/-- The content at a path, changed. -/
def navSet : AV → Path → (AV → Pr AV) → Pr AV
  | a, [], f => f a
  | .sl o n s els, (i, k) :: p, f => match o with
    | true => .elt els[i]? fun el => match el[k]? with
      | some a => do
        let a' ← navSet a p f
        .ret (.sl o n s (els.set i (el.set k a')))
      | none => .fail
    | false => .fail
  | _, _, _ => .fail

def storeEl (sz j k : Nat) (news : List AV) : AV → Pr AV
  | .sl true n s els => chk (Nat.beq s sz) <| .elt els[j]? fun el =>
      chk (Nat.ble (k + news.length) el.length) (.ret (.sl true n s (els.set j (spliceAV el k news))))
  | _ => .fail

def storeTV (i : TyI) (t : TV) (news : List TV) : Pr Unit :=
  match t with
  | .val (.bp b off) => .get (.bx b) fun x => match x with
    | (ver, some (s, tvs)) => chk (Nat.ble (off + i.size) tvs.length) (chk (Nat.beq news.length i.size) (.put (.bx b) (hUp ver, some (s, spliceTV tvs off news)) (.ret ())))
    | _ => .fail
  | .eref r c ver p sz j k => chk (Nat.blt 0 sz) <| do
    let avs ← vals news
    chk (Nat.beq avs.length i.size && okCells avs) (.get r fun x => match x with
    | (v, some (s, tvs)) => match verOk v ver p with
      | true => match tvs[c]? with
        | some (.val a) => do
          let a' ← navSet a p (storeEl sz j k avs)
          .put r (cUp (cUp v), some (s, tvs.set c (.val a'))) (.ret ())
        | _ => .fail
      | false => .fail
    | _ => .fail)
  | _ => .fail

/-! ### Scalars -/

def intBin (op : BinOp) (k : IntKind) (a b : Int) (d : Option Tmp) : Pr Unit :=
  match op with
  | .add => .nm (k.wrap (a + b)) fun m => setV d (.int k m)
  | .sub => .nm (k.wrap (a - b)) fun m => setV d (.int k m)
  | .mul => .nm (k.wrap (a * b)) fun m => setV d (.int k m)
  | .quo => .req (b ≠ 0) (.nm (k.wrap (a.tdiv b)) fun m => setV d (.int k m))
  | .rem => .req (b ≠ 0) (.nm (a.tmod b) fun m => setV d (.int k m))
  | .and => .nm (k.wrap (BitVec.ofInt k.bits a &&& BitVec.ofInt k.bits b).toNat) fun m => setV d (.int k m)
  | .or => .nm (k.wrap (BitVec.ofInt k.bits a ||| BitVec.ofInt k.bits b).toNat) fun m => setV d (.int k m)
  | .xor => .nm (k.wrap (BitVec.ofInt k.bits a ^^^ BitVec.ofInt k.bits b).toNat) fun m => setV d (.int k m)
  | .andNot => .nm (k.wrap (BitVec.ofInt k.bits a &&& ~~~BitVec.ofInt k.bits b).toNat) fun m => setV d (.int k m)
  | .eql => setV d (.bool (a == b))
  | .neq => setV d (.bool (a != b))
  | .lss => setV d (.bool (decide (a < b)))
  | .leq => setV d (.bool (decide (a ≤ b)))
  | .gtr => setV d (.bool (decide (a > b)))
  | .geq => setV d (.bool (decide (a ≥ b)))
  | _ => .fail

def strBin (op : BinOp) (a b : ByteArray) (d : Option Tmp) : Pr Unit :=
  match op with
  | .add => .req (((a.size + b.size : Nat) : Int) ≤ IntKind.i64.max) (setV d (.string (a ++ b)))
  | .eql => setV d (.bool (a.toList == b.toList))
  | .neq => setV d (.bool (!(a.toList == b.toList)))
  | .lss => setV d (.bool (Op.bytesLess a.toList b.toList))
  | .leq => setV d (.bool (Op.bytesLess a.toList b.toList || a.toList == b.toList))
  | .gtr => setV d (.bool (!(Op.bytesLess a.toList b.toList || a.toList == b.toList)))
  | .geq => setV d (.bool (!(Op.bytesLess a.toList b.toList)))
  | _ => .fail

def shiftBin (op : BinOp) (k : IntKind) (a b : Int) (d : Option Tmp) : Pr Unit :=
  .req (0 ≤ b) (match op with
  | .shl => .nm (k.wrap (a * 2 ^ (min b.toNat k.bits))) fun m => setV d (.int k m)
  | .shr => .nm (a.fdiv (2 ^ (min b.toNat k.bits))) fun m => setV d (.int k m)
  | _ => .fail)

def isShift : BinOp → Bool
  | .shl | .shr => true
  | _ => false

def kindEq : IntKind → IntKind → Bool
  | .i64, .i64 | .u8, .u8 | .i32, .i32 | .u64, .u64 | .u32, .u32 | .i8, .i8 | .i16, .i16 | .u16, .u16 => true
  | _, _ => false

def valBin (op : BinOp) (a b : Value) (d : Option Tmp) : Pr Unit :=
  match a, b with
  | .int k x, .int k' y => match isShift op with
    | true => shiftBin op k x y d
    | false => match kindEq k k' with
      | true => intBin op k x y d
      | false => .fail
  | .string x, .string y => strBin op x y d
  | .bool x, .bool y => match op with
    | .eql => setV d (.bool (x == y))
    | .neq => setV d (.bool (!(x == y)))
    | _ => .fail
  | _, _ => .fail

def nilOf : NF → List (List AV) → Option Bool
  | .isnil, _ => some true
  | .non, _ => some false
  | .unk, _ :: _ => some false
  | .unk, [] => none

/-- A slice against nil. -/
def nilBin (op : BinOp) (t : TV) (d : Option Tmp) : Pr Unit := do
  let a ← share t
  match a with
  | .sl _ n _ els => match nilOf n els with
    | some b => match op with
      | .eql => setV d (.bool b)
      | .neq => setV d (.bool (!b))
      | _ => .fail
    | none => .fail
  | _ => .fail

def isNilConst : Operand → Bool
  | .const (.slice none 0 0) => true
  | _ => false

def binPr (Γ : Env) (op : BinOp) (T : TypeId) (x y : Operand) (d : Option Tmp) : Pr Unit :=
  match isNilConst y with
  | true => withTy Γ T fun i => match i.kind with
    | .slice _ => do
      let t ← rdOne x
      nilBin op t d
    | _ => .fail
  | false => do
    let a ← rdV x
    let b ← rdV y
    match a, op with
    | .bool _, .eql | .bool _, .neq => withTy Γ T fun i => match i.kind with
      | .bool => valBin op a b d
      | _ => .fail
    | _, _ => valBin op a b d

def unPr (op : UnOp) (x : Operand) (d : Option Tmp) : Pr Unit := do
  let a ← rdV x
  match op, a with
  | .not, .bool b => setV d (.bool (!b))
  | .neg, .int k n => .nm (k.wrap (0 - n)) fun m => setV d (.int k m)
  | _, _ => .fail

def bytesOf (els : List (List AV)) : List UInt8 := els.map fun
  | [.v (.int .u8 n)] => UInt8.ofNat n.toNat
  | _ => 0

def byteEls (s : ByteArray) : List (List AV) := s.data.toList.map fun b => [.v (.int .u8 b.toNat)]

def convPr (Γ : Env) (S T : TypeId) (x : Operand) (d : Option Tmp) : Pr Unit :=
  withTy Γ T fun i => withTy Γ S fun i' => match i.kind with
  | .int k => do
    let (_, n) ← rdInt x
    .nm (k.wrap n) fun m => setV d (.int k m)
  | .slice e => withTy Γ e fun j => match j.kind, i'.kind with
    | .int .u8, .string => do
      let a ← rdV x
      match a with
      | .string s => .req (s.size ≤ 1099511627776) (setSl d .one [.val (.sl false .non 1 (byteEls s))])
      | _ => .fail
    | _, _ => .fail
  | .string => match i'.kind with
    | .slice e => withTy Γ e fun j => match j.kind with
      | .int .u8 => do
        let t ← rdOne x
        let a ← share t
        match a with
        | .sl _ _ _ els => .req (∀ el ∈ els, ∃ n, el = [.v (.int .u8 n)]) (setV d (.string ⟨(bytesOf els).toArray⟩))
        | _ => .fail
      | _ => .fail
    | .string => do
      let a ← rdV x
      match a with
      | .string s => setV d (.string s)
      | _ => .fail
    | _ => .fail
  | _ => .fail

/-! ### Slices -/

def isNilL {α : Type} : List α → Bool
  | [] => true
  | _ :: _ => false

def szOk (n : NF) (s sz : Nat) : Bool := Nat.beq s sz || n.isNil

theorem szOk_eq {n : NF} {s sz : Nat} (h : szOk n s sz = true) (hn : n ≠ .isnil) : s = sz := by
  unfold szOk at h
  cases n <;> simp_all [NF.isNil]

/-- The slice that is appended to: taken. -/
def takeSl (x : Operand) : Pr (NF × List (List AV) × Nat) := do
  let t ← rdOne x
  let u ← take t
  match u with
  | .val (.sl true n s els) => .ret (n, els, s)
  | _ => .fail

/-- The slice whose elements are appended: a temporary's own slice is taken, any other read. -/
def srcSl (x : Operand) : Pr (NF × List (List AV) × Nat) := do
  let t ← rdOne x
  match x, t with
  | .tmp i, .ref (.sl j) c ver [] => match Nat.beq i j with
    | true => do
      let a ← takeRef (.sl j) c ver
      match a with
      | .sl _ n s els => .ret (n, els, s)
      | _ => .fail
    | false => do
      let a ← share (.ref (.sl j) c ver [])
      match a with
      | .sl _ n s els => .req (∀ el ∈ els, ∃ x, el = [.v x]) (.ret (n, els, s))
      | _ => .fail
  | _, .ref r c ver p => do
    let a ← share (.ref r c ver p)
    match a with
    | .sl _ n s els => .req (∀ el ∈ els, ∃ x, el = [.v x]) (.ret (n, els, s))
    | _ => .fail
  | _, .val (.sl false n s els) => .ret (n, els, s)
  | _, _ => .fail

/-- What is appended to nil may be nil. -/
def apF : NF → NF
  | .non => .non
  | _ => .unk

/-- Whether what is appended is the slice itself. -/
def selfApp (x y : Operand) : Pr Bool := do
  let t ← rdOne x
  let u ← rdOne y
  match t, u with
  | .ref r c ver [], .ref r' c' ver' [] => match Rs.eqb r r' && Nat.beq c c' with
    | true => do
      let _ ← content r c ver []
      let _ ← content r c ver' []
      .ret true
    | false => .ret false
  | _, _ => .ret false

def srcOr (b : Bool) (n : NF) (els : List (List AV)) (s : Nat) (y : Operand) : Pr (NF × List (List AV) × Nat) :=
  match b with
  | true => .req (∀ v ∈ els.flatten, ∃ z, v = AV.v z) (.ret (n, els, s))
  | false => srcSl y

def appendPr (Γ : Env) (T : TypeId) (x y : Operand) (d : Option Tmp) : Pr Unit :=
  withElem Γ T fun e => do
    let b ← selfApp x y
    let (n1, els1, s1) ← takeSl x
    let (n2, els2, s2) ← srcOr b n1 els1 s1 y
    chk (szOk n1 s1 e.size) (chk (szOk n2 s2 e.size) (chk (Nat.blt 0 e.size && Nat.beq e.zero.length e.size)
      (.req ((els1.length + els2.length) * e.bytes ≤ 140737488355328 ∧ els1.length + els2.length ≤ 1099511627776)
        (setSl d .one [.val (.sl true (apF n1) e.size (els1 ++ els2))]))))

def lenPr (Γ : Env) (T : TypeId) (x : Operand) (d : Option Tmp) : Pr Unit :=
  withTy Γ T fun i => match i.kind with
    | .string => do
      let a ← rdV x
      match a with
      | .string s => .nm s.size fun m => setV d (.int .i64 m)
      | _ => .fail
    | .slice _ => do
      let t ← rdOne x
      match t with
      | .val (.sl _ _ _ els) => .nm els.length fun m => setV d (.int .i64 m)
      | .ref r c ver p => do
        let a ← content r c ver p
        match a with
        | .sl _ _ _ els => .nm els.length fun m => setV d (.int .i64 m)
        | _ => .fail
      | _ => .fail
    | _ => .fail

def optInt (x : Option Operand) (dflt : Int) : Pr Int :=
  match x with
  | none => .ret dflt
  | some x => do
    let (_, n) ← rdInt x
    .ret n

def slicePr (Γ : Env) (T : TypeId) (x : Operand) (lo hi : Option Operand) (d : Option Tmp) : Pr Unit :=
  withTy Γ T fun i => do
    let t ← rdOne x
    match i.kind, t with
    | .string, .val (.v (.string s)) => do
      let l ← optInt lo 0
      let h ← optInt hi s.size
      .req (0 ≤ l ∧ l ≤ h ∧ h ≤ s.size) (setV d (.string (s.extract l.toNat h.toNat)))
    | .slice e, .val (.sl false n s els) => withTy Γ e fun j => do
      let l ← optInt lo 0
      let h ← optInt hi els.length
      chk (szOk n s j.size) (.req (0 ≤ l ∧ l ≤ h ∧ h ≤ els.length) (setSl d .one [.val (.sl false n s ((els.take h.toNat).drop l.toNat))]))
    | .slice e, .ref r c ver [] => match isEx r with
      | true => .fail
      | false => withTy Γ e fun j => .get r fun z => match z with
        | (v, some (s', tvs)) => match verOk v ver [] with
          | true => match tvs[c]? with
            | some (.val (.sl true n s els)) => .put r (cUp (cUp v), some (s', tvs.set c (.val (.sl false n s (shcLL els))))) (do
              let l ← optInt lo 0
              let h ← optInt hi els.length
              chk (szOk n s j.size) (.req (0 ≤ l ∧ l ≤ h ∧ h ≤ els.length) (setSl d .one [.val (.sl false n s (((shcLL els).take h.toNat).drop l.toNat))])))
            | _ => .fail
          | false => .fail
        | _ => .fail
    | _, _ => .fail

/-- A view of a whole cell is as new as the cell. -/
def freshVer (r : Rs) (ver : Nat × Nat) (p : Path) {α : Type} (k : Nat × Nat → Pr α) : Pr α :=
  match p with
  | [] => .get r fun z => k z.1
  | _ :: _ => k ver

/-- A shared slice, sliced with three indexes; an owned one: its first elements, viewed. -/
def slice3Pr (Γ : Env) (T : TypeId) (x : Operand) (lo hi mx : Option Operand) (d : Option Tmp) : Pr Unit :=
  withTy Γ T fun i => do
    let t ← rdOne x
    match i.kind, t, hi, mx with
    | .slice e, .val (.sl false n s els), some hi, some mx => withTy Γ e fun j => do
      let l ← optInt lo 0
      let h ← rdInt hi
      let m ← rdInt mx
      chk (szOk n s j.size) (.req (0 ≤ l ∧ l ≤ h.2 ∧ h.2 ≤ m.2 ∧ m.2 ≤ els.length) (setSl d .one [.val (.sl false n s ((els.take h.2.toNat).drop l.toNat))]))
    | .slice e, .ref r c ver [], some hi, some mx => withTy Γ e fun j => do
      let a ← content r c ver []
      match a with
      | .sl true n s els => do
        let l ← optInt lo 0
        let h ← rdInt hi
        let m ← rdInt mx
        chk (szOk n s j.size) (.req (l = 0 ∧ 0 ≤ h.2 ∧ h.2 ≤ m.2 ∧ m.2 ≤ els.length ∧ 0 < els.length) (freshVer r ver [] fun ver' => setSl d .one [.eref r c ver' [] 0 h.2.toNat m.2.toNat]))
      | _ => .fail
    | _, _, _, _ => .fail

def indexAddrPr (Γ : Env) (T : TypeId) (x y : Operand) (d : Option Tmp) : Pr Unit :=
  withElem Γ T fun e => do
    let t ← rdOne x
    let (_, i) ← rdInt y
    match t with
    | .val (.sl false n s els) => chk (szOk n s e.size) (.req (0 ≤ i ∧ i < els.length) (setSl d .one [.val (.ep s els i.toNat 0)]))
    | .ref r c ver p => do
      let a ← content r c ver p
      match a with
      | .sl true n s els => chk (szOk n s e.size && Nat.blt 0 s) (.req (0 ≤ i ∧ i < els.length) (freshVer r ver p fun ver' => setSl d .one [.eref r c ver' p s i.toNat 0]))
      | .sl false n s els => chk (szOk n s e.size) (.req (0 ≤ i ∧ i < els.length) (setSl d .one [.val (.ep s els i.toNat 0)]))
      | _ => .fail
    | _ => .fail

def indexPr (Γ : Env) (T : TypeId) (x y : Operand) (d : Option Tmp) : Pr Unit :=
  withTy Γ T fun j => match j.kind with
    | .string => do
      let a ← rdV x
      let (_, i) ← rdInt y
      match a with
      | .string s => .req (0 ≤ i ∧ i < s.size) (.nm ((s.data.toList.getD i.toNat 0).toNat) fun m => setV d (.int .u8 m))
      | _ => .fail
    | _ => .fail

def fieldOf (Γ : Env) (T : TypeId) (f : Nat) {α : Type} (k : Nat → Nat → Bool → Pr α) : Pr α :=
  withTy Γ T fun i => match i.kind with
    | .struct fs => match fs[f]? with
      | some (o, n, g) => k o n g
      | none => .fail
    | _ => .fail

def fieldAddrPr (Γ : Env) (T : TypeId) (x : Operand) (f : Nat) (d : Option Tmp) : Pr Unit :=
  fieldOf Γ T f fun o n _ => chk (Nat.blt 0 n) <| do
    let t ← rdOne x
    match t with
    | .val (.bp b off) => setSl d .one [.val (.bp b (off + o))]
    | .val (.ep s els i c) => setSl d .one [.val (.ep s els i (c + o))]
    | .val (.cp cells off) => setSl d .one [.val (.cp cells (off + o))]
    | .eref r c ver p s i k => chk (Nat.blt 0 s) (setSl d .one [.eref r c ver p s i (k + o)])
    | _ => .fail

def aggShape (b : Bool) : Shape := match b with | true => .agg | false => .one

def fieldPr (Γ : Env) (T : TypeId) (x : Operand) (f : Nat) (d : Option Tmp) : Pr Unit :=
  fieldOf Γ T f fun o n g => do
    let (s, tvs) ← rdOp x
    match s with
    | .agg =>
      chk (Nat.beq (sliceTV tvs o n).length n && (g || Nat.beq n 1)) (setSl d (aggShape g) (sliceTV tvs o n))
    | _ => .fail

def tupAt : List (Bool × Nat) → Nat → Nat → Option (Nat × Nat × Bool)
  | [], _, _ => none
  | (g, n) :: _, 0, o => some (o, n, g)
  | (_, n) :: l, i + 1, o => tupAt l i (o + n)

def extractPr (x : Operand) (i : Nat) (d : Option Tmp) : Pr Unit := do
  let (s, tvs) ← rdOp x
  match s with
  | .tup l => match tupAt l i 0 with
    | some (o, n, g) =>
      chk (Nat.beq (sliceTV tvs o n).length n) (setSl d (aggShape g) (sliceTV tvs o n))
    | none => .fail
  | _ => .fail

def elsOf : List (List TV) → Pr (List (List AV))
  | [] => .ret []
  | l :: r => do
    let a ← vals l
    let as ← elsOf r
    .ret (a :: as)

def partsFrom (size : Nat) : Nat → List (Nat × Operand) → Pr (List (List AV))
  | _, [] => .ret []
  | i, (j, x) :: l => chk (Nat.beq i j) (do
    let (sh, tvs) ← rdOp x
    let ts ← takes tvs
    let as ← vals ts
    chk (Nat.beq as.length size && okCells as && notTup sh) (do
      let rest ← partsFrom size (i + 1) l
      .ret (as :: rest)))

def buildSlicePr (Γ : Env) (T : TypeId) (n : Nat) (parts : List (Nat × Operand)) (d : Option Tmp) : Pr Unit :=
  withElem Γ T fun e => chk (Nat.beq parts.length n) (chk (Nat.blt 0 e.size) (chk (Nat.ble (n * e.size) 16777216) (do
    let els ← partsFrom e.size 0 parts
    setSl d .one [.val (.sl true .non e.size els)])))

def makeSlicePr (Γ : Env) (T : TypeId) (l c : Operand) (d : Option Tmp) : Pr Unit :=
  withElem Γ T fun e => chk (Nat.blt 0 e.size) (do
    let (_, n) ← rdInt l
    let (_, m) ← rdInt c
    match constTVs e.zero with
    | some tvs => do
      let z ← vals tvs
      chk (Nat.beq z.length e.size && okCells z) (.req (n = m ∧ 0 ≤ n ∧ n ≤ 1099511627776 ∧ n * e.bytes ≤ 281474976710656) (setSl d .one [.val (.sl true .non e.size (List.replicate n.toNat z))]))
    | none => .fail)

def buildFill (fs : List (Nat × Nat × Bool)) : List TV → List (Nat × Operand) → Pr (List TV)
  | cells, [] => .ret cells
  | cells, (i, x) :: l => match fs[i]? with
    | some (o, n, _) => do
      let (sh, tvs) ← rdOp x
      chk (Nat.beq tvs.length n && notTup sh) (chk (Nat.ble (o + n) cells.length) (buildFill fs (spliceTV cells o tvs) l))
    | none => .fail

def buildPr (Γ : Env) (T : TypeId) (parts : List (Nat × Operand)) (d : Option Tmp) : Pr Unit :=
  withTy Γ T fun i => match i.kind with
    | .struct fs => match constTVs i.zero with
      | some z => do
        let cells ← buildFill fs z parts
        setSl d .agg cells
      | none => .fail
    | _ => .fail

def newBox (d : Tmp) (cells : List TV) : Pr Unit :=
  .get (.bx d) fun x => match x with
    | (v, none) => .put (.bx d) (hUp v, some (.agg, cells)) (setSl (some d) .one [.val (.bp d 0)])
    | _ => .fail

def allocPr (Γ : Env) (T : TypeId) (d : Option Tmp) : Pr Unit :=
  withTy Γ T fun i => match constTVs i.zero, d with
    | some z, some d => newBox d z
    | _, _ => .fail

def boxPr (Γ : Env) (T : TypeId) (x : Operand) (d : Option Tmp) : Pr Unit :=
  withTy Γ T fun i => match d with
    | some d => do
      let (s, tvs) ← rdOp x
      let ts ← takes tvs
      chk (Nat.beq ts.length i.size && notTup s) (match hasNat Γ.esc T with
        | true => do
          let as ← vals ts
          chk (okCells as) (setSl (some d) .one [.val (.own as)])
        | false => newBox d ts)
    | none => .fail

def minPr (op : Builtin) (args : List Operand) (d : Option Tmp) : Pr Unit :=
  match args with
  | [x, y] => do
    let (k, a) ← rdInt x
    let (_, b) ← rdInt y
    match op with
    | .min => .nm (if b < a then b else a) fun m => setV d (.int k m)
    | .max => .nm (if b > a then b else a) fun m => setV d (.int k m)
    | _ => .fail
  | _ => .fail

/-! ### Calls -/

/-- What a closure has captured, as its callee sees it. -/
def capCells : List AV → Pr (List AV)
  | [] => .ret []
  | .bp b off :: l => .get (.bx b) fun x => match x with
    | (_, some (_, tvs)) => do
      let cs ← shares tvs
      let r ← capCells l
      .ret (.cp cs off :: r)
    | _ => .fail
  | a :: l => chk (!isPtr a) (do
    let r ← capCells l
    .ret (shc a :: r))

def argAV0 : TV → Pr AV
  | .val (.clo f caps) => do
    let cs ← capCells caps
    .ret (.clo f cs)
  | t => share t

/-- Whether it is nil is not told. -/
def unkA : AV → AV
  | .sl o n s els => match n with
    | .isnil => .sl o .isnil s els
    | _ => .sl o .unk s els
  | a => a

def argAV (t : TV) : Pr AV := do
  let a ← argAV0 t
  .ret (unkA a)

def argAVs : List TV → Pr (List AV)
  | [] => .ret []
  | t :: l => do
    let a ← argAV t
    let as ← argAVs l
    .ret (a :: as)

/-- The leaf, and what the whole is with another leaf. -/
def navZ : AV → Path → Pr (AV × (AV → AV))
  | a, [] => .ret (a, fun x => x)
  | .sl o n s els, (i, k) :: p => match o with
    | true => .elt els[i]? fun el => match el[k]? with
      | some a => do
        let (l, rb) ← navZ a p
        .ret (l, fun x => .sl o n s (els.set i (el.set k (rb x))))
      | none => .fail
    | false => .fail
  | _, _ => .fail

structure Lend where
  r : Rs
  c : Nat
  rb : AV → AV

/-- What is lent to a callee: the content, owned. -/
def lendTV : TV → Pr (AV × Option Lend)
  | .val a => chk (!isPtr a) (.ret (shc a, none))
  | .ref r c ver p => .get r fun x => match x with
    | (v, some (s, tvs)) => match verOk v ver p with
      | true => match tvs[c]? with
        | some (.val a) => do
          let (leaf, rb) ← navZ a p
          chk (isLd leaf) (.put r (cUp v, some (s, tvs.set c (.val .any))) (.ret (leaf, some ⟨r, c, rb⟩)))
        | _ => .fail
      | false => .fail
    | _ => .fail
  | .eref .. => .fail

def lendTVs : List TV → Pr (List AV × List (Option Lend))
  | [] => .ret ([], [])
  | t :: l => do
    let (a, x) ← lendTV t
    let (as, xs) ← lendTVs l
    .ret (a :: as, x :: xs)

/-- Back from the callee. -/
def backCells : List (Option Lend) → List AV → Pr Unit
  | [], [] => .ret ()
  | none :: l, _ :: as => backCells l as
  | some b :: l, a :: as => chk (isLd a) (.get b.r fun x => match x with
    | (v, some (s, tvs)) => match tvs[b.c]? with
      | some (.val .any) => .put b.r (cUp v, some (s, tvs.set b.c (.val (b.rb a)))) (backCells l as)
      | _ => .fail
    | _ => .fail)
  | _, _ => .fail

def noRef : List TV → Bool
  | [] => true
  | .val (.clo _ (_ :: _)) :: _ => false
  | .val _ :: l => noRef l
  | _ :: _ => false

structure Ar where
  s : Shape
  tvs : List TV
  sh : Option (List AV)   -- shared; none: lent

/-- The arguments: each with its mark 'lent'. -/
def argsPr : List Nat → Nat → List Operand → Pr (List Ar)
  | _, _, [] => .ret []
  | io, i, x :: l => do
    let (s, tvs) ← rdOp x
    match io.contains i with
    | true => do
      let r ← argsPr io (i + 1) l
      .ret (⟨s, tvs, none⟩ :: r)
    | false => do
      let as ← argAVs tvs
      let r ← argsPr io (i + 1) l
      .ret (⟨s, tvs, some as⟩ :: r)

/-- All that is not lent is no view of what this call owns. -/
def noRefs : List Ar → Bool
  | [] => true
  | ⟨_, _, none⟩ :: l => noRefs l
  | ⟨_, tvs, some _⟩ :: l => noRef tvs && noRefs l

abbrev Lent := Arg × Option (List (Option Lend))

def lendAll : List Ar → Pr (List Lent)
  | [] => .ret []
  | ⟨s, _, some as⟩ :: l => do
    let r ← lendAll l
    .ret (((s, as), none) :: r)
  | ⟨s, tvs, none⟩ :: l => do
    let (as, ls) ← lendTVs tvs
    let r ← lendAll l
    .ret (((s, as), some ls) :: r)

def allShared : List Ar → Option (List Arg)
  | [] => some []
  | ⟨s, _, some as⟩ :: l => match allShared l with
    | some r => some ((s, as) :: r)
    | none => none
  | ⟨_, _, none⟩ :: _ => none

def shEq : Shape → Shape → Bool
  | .one, .one => true
  | .agg, .agg => true
  | _, _ => false

def backs : List Lent → List Arg → Pr Unit
  | [], [] => .ret ()
  | (_, none) :: l, _ :: os => backs l os
  | ((s, _), some ls) :: l, (s', as) :: os => chk (shEq s s' && Nat.beq as.length ls.length) (do
    backCells ls as
    backs l os)
  | _, _ => .fail

def valTVs : List AV → List TV
  | [] => []
  | a :: l => .val a :: valTVs l

mutual
/-- No shared memory in it. -/
def dOwn : AV → Prop
  | .sl o _ _ els => (o = true ∨ els = []) ∧ dOwnLL els
  | .v _ | .any => True
  | _ => False
def dOwnL : List AV → Prop
  | [] => True
  | a :: l => dOwn a ∧ dOwnL l
def dOwnLL : List (List AV) → Prop
  | [] => True
  | a :: l => dOwnL a ∧ dOwnLL l
end

def firsts : List Lent → List Arg
  | [] => []
  | x :: l => x.1 :: firsts l

def capArgs : List AV → List Arg
  | [] => []
  | a :: l => (.one, [a]) :: capArgs l

/-- What is looked at is given up: shared from now on. -/
def disown : List TV → Pr Unit
  | [] => .ret ()
  | .val _ :: l => disown l
  | .ref r c _ [] :: l => match isEx r with
    | true => .fail
    | false => .get r fun z => match z with
      | (v, some (s', tvs)) => match tvs[c]? with
        | some (.val (.sl true n s els)) => .put r (cUp (cUp v), some (s', tvs.set c (.val (.sl false n s (shcLL els))))) (disown l)
        | _ => .fail
      | _ => .fail
  | _ :: _ => .fail

def disownAll : List Ar → Pr Unit
  | [] => .ret ()
  | ⟨_, _, none⟩ :: l => disownAll l
  | ⟨_, tvs, some _⟩ :: l => do
    disown tvs
    disownAll l

/-- The call of a function to which some arguments are lent. -/
def callLend (f : FuncId) (as : List Ar) (d : Option Tmp) : Pr Unit := do
  let bs ← lendAll as
  .call f (firsts bs) fun cr => do
    backs bs cr.outs
    setSl d cr.res.1 (valTVs cr.res.2)

/-! Closures beside what is lent: the boxes that they have captured hold plain content -/

def plainTVs : List TV → Bool
  | [] => true
  | .val a :: l => !a.owns && !isPtr a && plainTVs l
  | _ :: _ => false

def ownTV : TV → AV
  | .val a => a
  | _ => .any

def ownTVs : List TV → List AV
  | [] => []
  | t :: l => ownTV t :: ownTVs l

def pCaps : List AV → Pr (List AV)
  | [] => .ret []
  | .bp b off :: l => .get (.bx b) fun x => match x with
    | (_, some (_, tvs)) => chk (plainTVs tvs) (do
      let r ← pCaps l
      .ret (.cp (ownTVs tvs) off :: r))
    | _ => .fail
  | a :: l => chk (!isPtr a && !a.owns) (do
    let r ← pCaps l
    .ret (a :: r))

def cloOf (x : Ar) : Option (FuncId × List AV) :=
  match x with
  | ⟨.one, [.val (.clo f (c :: cs))], some _⟩ => some (f, c :: cs)
  | _ => none

def blankAr : List Ar → List Ar
  | [] => []
  | x :: l => (match cloOf x with | some _ => ⟨.one, [.val .any], some [.any]⟩ | none => x) :: blankAr l

def cloCells : List Ar → Pr (List (Option AV))
  | [] => .ret []
  | x :: l => match cloOf x with
    | some (f, caps) => do
      let cs ← pCaps caps
      let r ← cloCells l
      .ret (some (.clo f cs) :: r)
    | none => do
      let r ← cloCells l
      .ret (none :: r)

def patch : List (Option AV) → List Lent → List Arg
  | o :: os, (x, none) :: l => (match o with | some a => (.one, [a]) | none => x) :: patch os l
  | _ :: os, (x, some _) :: l => x :: patch os l
  | _, _ => []

def outsOk : List Lent → List Arg → Prop
  | [], [] => True
  | (_, none) :: l, (_, as) :: o => anyOwns as = false ∧ outsOk l o
  | (_, some _) :: l, (_, as) :: o => dOwnL as ∧ outsOk l o
  | _, _ => False

def callLendC (f : FuncId) (as : List Ar) (d : Option Tmp) : Pr Unit := do
  let os ← cloCells as
  let bs ← lendAll (blankAr as)
  .call f (patch os bs) fun cr => .req (outsOk bs cr.outs ∧ dOwnL cr.res.2) (do
    backs bs cr.outs
    setSl d cr.res.1 (valTVs cr.res.2))

/-- A view of what is not owned: the content itself. -/
def settleTV : TV → Pr TV
  | .ref r c ver [] => .get r fun x => match x with
    | (v, some (_, tvs)) => match verOk v ver [] with
      | true => match tvs[c]? with
        | some (.val a) => chk (!a.owns && !isPtr a) (.ret (.val a))
        | _ => .fail
      | false => .fail
    | _ => .fail
  | t => .ret t

def settleTVs : List TV → Pr (List TV)
  | [] => .ret []
  | t :: l => do
    let u ← settleTV t
    let us ← settleTVs l
    .ret (u :: us)

def settleAll : List Ar → Pr (List Ar)
  | [] => .ret []
  | ⟨s, tvs, none⟩ :: l => do
    let r ← settleAll l
    .ret (⟨s, tvs, none⟩ :: r)
  | ⟨s, tvs, some _⟩ :: l => do
    let ts ← settleTVs tvs
    let as ← argAVs ts
    let r ← settleAll l
    .ret (⟨s, ts, some as⟩ :: r)

/-- What is looked at is given up ahead of the call; then it is lent. -/
def callDis (io : List Nat) (f : FuncId) (args : List Operand) (as : List Ar) (d : Option Tmp) : Pr Unit := do
  disownAll as
  let xs ← argsPr io 0 args
  let bs ← settleAll xs
  match noRefs bs with
  | true => callLend f bs d
  | false => match noRefs (blankAr bs) with
    | true => callLendC f bs d
    | false => .fail

/-- The mark of functions at whose calls all that is looked at is given up. -/
def disMark (io : List Nat) : Bool := hasNat io 1000

def callPr (io : List Nat) (f : FuncId) (args : List Operand) (caps : List AV) (d : Option Tmp) : Pr Unit := do
  let as ← argsPr io 0 args
  match noRefs as && isNilL caps with
  | true => callLend f as d
  | false => match disMark io && isNilL caps with
    | true => callDis io f args as d
    | false => match allShared as with
      | some xs => do
        let cs ← capCells caps
        .call f (xs ++ capArgs cs) fun cr => .req (dOwnL cr.res.2) (setSl d cr.res.1 (valTVs cr.res.2))
      | none => match isNilL caps with
        | true => callDis io f args as d
        | false => .fail

def capsOf : List Operand → Pr (List TV)
  | [] => .ret []
  | x :: l => do
    let t ← rdOne x
    let r ← capsOf l
    .ret (t :: r)

def opPr (Γ : Env) (o : Oper) : Pr Unit :=
  match o.op with
  | .move x => do
    let (s, tvs) ← rdOp x
    setSl o.dst s tvs
  | .nilCheck x => do
    let t ← rdOne x
    match t with
    | .val (.bp b off) => setSl o.dst .one [.val (.bp b off)]
    | .val (.clo f caps) => setSl o.dst .one [.val (.clo f caps)]
    | _ => .fail
  | .assign x => do
    let (s, tvs) ← rdOp x
    let ts ← takes tvs
    setOwn o.dst s ts
  | .pick c a b => do
    let x ← rdV c
    match x with
    | .bool b' => .br b' (do
        let y ← rdV a
        setV o.dst y) (do
        let y ← rdV b
        setV o.dst y)
    | _ => .fail
  | .alloc T => allocPr Γ T o.dst
  | .box T x => boxPr Γ T x o.dst
  | .build T parts => buildPr Γ T parts.toList o.dst
  | .buildSlice T n parts => buildSlicePr Γ T n parts.toList o.dst
  | .load T x => withTy Γ T fun i => chk (szB i) (do
    let t ← rdOne x
    let (s, tvs) ← loadTV i t
    setSl o.dst s tvs)
  | .store T x y => match o.dst with
    | none => withTy Γ T fun i => do
      let t ← rdOne x
      let (s, tvs) ← rdOp y
      let ts ← takes tvs
      chk (notTup s) (storeTV i t ts)
    | some _ => .fail
  | .binOp op T x y _ => binPr Γ op T x y o.dst
  | .unOp op _ x => unPr op x o.dst
  | .convert S T x => convPr Γ S T x o.dst
  | .makeSlice T l c => makeSlicePr Γ T l c o.dst
  | .slice T x lo hi mx => match mx with
    | none => slicePr Γ T x lo hi o.dst
    | some m => slice3Pr Γ T x lo hi (some m) o.dst
  | .fieldAddr T x f => fieldAddrPr Γ T x f o.dst
  | .field T x f => fieldPr Γ T x f o.dst
  | .indexAddr T x y => indexAddrPr Γ T x y o.dst
  | .index T x y => indexPr Γ T x y o.dst
  | .extract x i => extractPr x i o.dst
  | .makeFunc (.func f) first caps => match first.toList with
    | [] => do
      let tvs ← capsOf caps.toList
      let as ← vals tvs
      setSl o.dst .one [.val (.clo f as)]
    | _ => .fail
  | .call c => match c.callee with
    | .value (.func f) => callPr ((findNat Γ.io f).getD []) f c.args.toList [] o.dst
    | .value (.tmp t) => do
      let u ← rdOne (.tmp t)
      match u with
      | .val (.clo f caps) => callPr [] f c.args.toList caps o.dst
      | _ => .fail
    | .builtin .len => match c.args.toList, c.argTypes.toList with
      | [x], [T] => lenPr Γ T x o.dst
      | _, _ => .fail
    | .builtin .append => match c.args.toList, c.argTypes.toList with
      | [x, y], [T, T'] => chk (Nat.beq T T') (appendPr Γ T x y o.dst)
      | _, _ => .fail
    | .builtin .min => minPr .min c.args.toList o.dst
    | .builtin .max => minPr .max c.args.toList o.dst
    | _ => .fail
  | _ => .fail

end Go.Vs

namespace Go.Vs

/-! ### Regions -/

def opG (Γ : Env) (ops : List Oper) (o : Oper) : Pr Unit :=
  match o.guard with
  | none => opPr Γ o
  | some (j, want) => match ops[j]? with
    | some oj => match oj.dst with
      | some t => .get (.sl t) fun x => match x with
        | (_, some (.one, [.val (.v (.bool b))])) => match want with
          | true => .br b (opPr Γ o) (setSl o.dst .und [])
          | false => .br b (setSl o.dst .und []) (opPr Γ o)
        | (_, some (.und, _)) => setSl o.dst .und []
        | _ => .fail
      | none => .fail
    | none => .fail

def regSat (P : Program) (Γ : Env) (ops : List Oper) : List Oper → St → List Log → (St → List Log → Prop) → Prop
  | [], σ, lgs, K => K σ lgs
  | o :: l, σ, lgs, K => (opG Γ ops o).sat P σ [] fun _ τ lg => regSat P Γ ops l τ (lg :: lgs) K

def conflict1 (w : Bool) (r : Rs) : Log → Bool
  | [] => false
  | (w', r') :: l => ((w || w') && r.eqb r') || conflict1 w r l

def conflict : Log → Log → Bool
  | [], _ => false
  | (w, r) :: l, m => conflict1 w r m || conflict l m

/-- Of each operation: what it waits for, through others too. 'acc': of the operations before it, the last first. -/
def memNat : Nat → List Nat → Bool
  | _, [] => false
  | n, m :: l => Nat.beq n m || memNat n l

def edgesOf (o : Oper) : List Nat := (o.after.toList.filter fun e => Region.binds .any e).map (·.on)

def closeUp (acc : List (List Nat)) : List Nat → List Nat
  | [] => []
  | e :: l => e :: ((acc.reverse[e]?).getD []) ++ closeUp acc l

def waits : List (List Nat) → List Oper → List (List Nat)
  | acc, [] => acc.reverse
  | acc, o :: l => waits (closeUp acc (edgesOf o) :: acc) l

/-- The operation number 'n' (with its log) against all that stand ahead of it. -/
def against (ws : List Nat) (lg : Log) : Nat → List Log → Bool
  | _, [] => true
  | i, m :: l => (!(conflict m lg) || memNat i ws) && against ws lg (i + 1) l

def orderFrom : List Log → Nat → List Oper → List (List Nat) → List Log → Bool
  | _, _, [], _, _ => true
  | done, n, o :: ops, ws :: wss, lg :: lgs => (edgesOf o).all (fun e => Nat.blt e n) && against ws lg 0 done.reverse && orderFrom (lg :: done) (n + 1) ops wss lgs
  | _, _, _, _, _ => false

/-- Every two operations that touch one thing, and one of them writes it, are kept in their order. -/
def orderOk (ops : List Oper) (lgs : List Log) : Bool := orderFrom [] 0 ops (waits [] ops) lgs

/-! ### Forgetting, at a loop's head -/

def hasRs : List Rs → Rs → Bool
  | [], _ => false
  | s :: l, r => s.eqb r || hasRs l r

def liveVer (σ : St) (r : Rs) (ver : Nat × Nat) (p : Path) : Bool :=
  match σ.get r with
  | (v, some _) => verOk v ver p
  | _ => false

mutual
/-- No pointer to a box that is dropped. -/
def keptAV (keep : List Rs) : AV → Bool
  | .bp b _ => hasRs keep (.bx b)
  | .clo _ caps => keptAVs keep caps
  | _ => true
def keptAVs (keep : List Rs) : List AV → Bool
  | [] => true
  | a :: l => keptAV keep a && keptAVs keep l
end

def weakTV (keep : List Rs) (σ : St) : TV → TV
  | .val a => match keptAV keep a with
    | true => .val a
    | false => .val .any
  | .ref r c ver p => match hasRs keep r && liveVer σ r ver p with
    | true => .ref r c (0, 0) p
    | false => .val .any
  | .eref .. => .val .any

def weakTVs (keep : List Rs) (σ : St) : List TV → List TV
  | [] => []
  | t :: l => weakTV keep σ t :: weakTVs keep σ l

def weakFrom (all : List Rs) (σ : St) : List Rs → St
  | [] => []
  | r :: l => match σ.get r with
    | (_, some (s, tvs)) => (r, ((0, 0), some (s, weakTVs all σ tvs))) :: weakFrom all σ l
    | _ => weakFrom all σ l

def weak (keep : List Rs) (σ : St) : St := weakFrom keep σ keep

/-! ### Code -/

/-- A cell that is a slice over the block of another place takes the block over; that place knows nothing any more. -/
inductive Adp (σ : St) : St → Prop
  | refl : Adp σ σ
  | mk {r r' : Rs} {c c' : Nat} {v v' ver : Nat × Nat} {s s' : Shape} {tvs tvs' : List TV} {nf : NF} {sz hh m : Nat} {els : List (List AV)}
      (hr : σ.get r = (v, some (s, tvs))) (hc : tvs[c]? = some (.val (.sl true nf sz els))) (hne : r' ≠ r)
      (hr' : σ.get r' = (v', some (s', tvs'))) (hc' : tvs'[c']? = some (.eref r c ver [] 0 hh m)) (hv : verOk v ver [] = true)
      (hpl : ∀ x ∈ els.flatten, ∃ z, x = .v z) (h1 : hh ≤ m) (h2 : m ≤ els.length) :
      Adp σ ((σ.put r (cUp v, some (s, tvs.set c (.val .any)))).put r' (cUp v', some (s', tvs'.set c' (.val (.sl true nf sz (els.take hh))))))

inductive Lp (start : List Rs → St → St) (σ : St) (F : List Rs → (Nat → St → Prop) → Prop) : Prop
  | intro (keep : List Rs) (I : Nat → St → Prop) (n : Nat) (τ σ' : St) (ha : Adp σ σ') (hw : WkS (start keep σ') τ) (h : I n τ) (h1 : F keep I)

theorem Lp.mk {start : List Rs → St → St} {σ : St} {F : List Rs → (Nat → St → Prop) → Prop} (keep : List Rs) (I : Nat → St → Prop) (n : Nat) (τ : St) (hw : WkS (start keep σ) τ) (h : I n τ) (h1 : F keep I) : Lp start σ F := ⟨keep, I, n, τ, σ, .refl, hw, h, h1⟩

theorem Lp.mkA {start : List Rs → St → St} {σ : St} {F : List Rs → (Nat → St → Prop) → Prop} (keep : List Rs) (I : Nat → St → Prop) (n : Nat) (τ σ' : St) (ha : Adp σ σ') (hw : WkS (start keep σ') τ) (h : I n τ) (h1 : F keep I) : Lp start σ F := ⟨keep, I, n, τ, σ', ha, hw, h, h1⟩

/-- The round is at its end: the next. -/
inductive Nx (I : Nat → St → Prop) (m : Nat) (σ : St) : Prop
  | intro (m' : Nat) (hm : m' < m) (τ : St) (hw : WkS σ τ) (h : I m' τ)


def awp (P : Program) (Γ : Env) : Code → (Exit → St → Prop) → St → Prop
  | .skip, Q, σ => Q .normal σ
  | .region _ ops draw, Q, σ => regSat P Γ ops.toList ops.toList σ [] fun τ lgs => match draw with
    | true => orderOk ops.toList lgs.reverse = true ∧ Q .normal τ
    | false => Q .normal τ
  | .seq x y, Q, σ => awp P Γ x (fun e τ => match e with
    | .normal => awp P Γ y Q τ
    | e => Q e τ) σ
  | .cond (.tmp t) x y, Q, σ => match σ.get (.sl t) with
    | (_, some (.one, [.val (.v (.bool b))])) => Br b (awp P Γ x Q σ) (awp P Γ y Q σ)
    | _ => False
  | .block id x, Q, σ => awp P Γ x (fun e τ => match e with
    | .exit i => match Nat.beq i id with
      | true => Q .normal τ
      | false => Q (.exit i) τ
    | e => Q e τ) σ
  | .loop x, Q, σ => Lp weak σ fun keep I => ∀ m τ, I m τ → awp P Γ x (fun e τ' => match e with
        | .normal => Nx I m (weak keep τ')
        | e => Q e τ') τ
  | .ret, Q, σ => Q .ret σ
  | .exit id, Q, σ => Q (.exit id) σ
  | _, _, _ => False

/-! ### Functions -/

def takeRes (tvs : List TV) : Pr (List AV) := do
  let ts ← takes tvs
  let as ← vals ts
  chk (okCells as) (.ret as)

/-- One result: its shape, its cells. -/
def resPr1 (Γ : Env) : ResultVar → Pr (Shape × List AV)
  | .tmp t => do
    let (s, tvs) ← rdOp (.tmp t)
    let as ← takeRes tvs
    .ret (s, as)
  | .cell p T => withTy Γ T fun i => chk (szB i) (do
    let t ← rdOne (.tmp p)
    let (s, tvs) ← loadTV i t
    let as ← takeRes tvs
    .ret (s, as))

def isAggS : Shape → Option Bool
  | .one => some false
  | .agg => some true
  | .tup _ => none
  | .und => none

def resPrs (Γ : Env) : List ResultVar → Pr (List (Bool × Nat) × List AV)
  | [] => .ret ([], [])
  | r :: l => do
    let (s, as) ← resPr1 Γ r
    match isAggS s with
    | some g => do
      let (ss, bs) ← resPrs Γ l
      .ret ((g, as.length) :: ss, as ++ bs)
    | none => .fail

def resPr (Γ : Env) : List ResultVar → Pr Arg
  | [r] => resPr1 Γ r
  | rs => do
    let (ss, as) ← resPrs Γ rs
    .ret (.tup ss, as)

/-- The lent arguments, read back. -/
def exCells (i : Nat) : Nat → List AV → List TV
  | _, [] => []
  | c, a :: l => (match a.owns with | true => .ref (.ex i) c (0, 0) [] | false => .val a) :: exCells i (c + 1) l

def startFrom (io : List Nat) : Nat → List Arg → St
  | _, [] => []
  | i, (s, as) :: l => match io.contains i with
    | true => (.sl i, ((0, 0), some (s, exCells i 0 as))) :: (.ex i, ((0, 0), some (s, valTVs as))) :: startFrom io (i + 1) l
    | false => (.sl i, ((0, 0), some (s, valTVs as))) :: startFrom io (i + 1) l

def outsPr (io : List Nat) : Nat → List Arg → Pr (List Arg)
  | _, [] => .ret []
  | i, (s, as) :: l => match io.contains i with
    | true => .get (.ex i) fun x => match x with
      | (_, some (_, tvs)) => do
        let bs ← vals tvs
        chk (okCells bs) (do
          let r ← outsPr io (i + 1) l
          .ret ((s, bs) :: r))
      | _ => .fail
    | false => do
      let r ← outsPr io (i + 1) l
      .ret ((s, as) :: r)

def endPr (Γ : Env) (io : List Nat) (args : List Arg) (rs : List ResultVar) : Pr (Arg × List Arg) := do
  let r ← resPr Γ rs
  let o ← outsPr io 0 args
  .ret (r, o)

def isRet : Exit → Bool
  | .normal | .ret => true
  | _ => false

def fitB : Shape → Nat → Bool
  | .one, n => Nat.beq n 1
  | .agg, _ => true
  | _, _ => false

/-- The arguments fit: their shapes; what is not lent owns nothing. -/
def argsOk (io : List Nat) : Nat → List Arg → Bool
  | _, [] => true
  | i, (s, as) :: l => fitB s as.length && (io.contains i || !(anyOwns as)) && argsOk io (i + 1) l

def dstsOk (n : Nat) : List Oper → Bool
  | [] => true
  | o :: l => (match o.dst with | none => true | some t => Nat.blt t n) && dstsOk n l

def codeOk (n : Nat) : Code → Bool
  | .region _ ops _ => dstsOk n ops.toList
  | .seq x y => codeOk n x && codeOk n y
  | .cond _ x y => codeOk n x && codeOk n y
  | .block _ x => codeOk n x
  | .loop x => codeOk n x
  | _ => true

/-- A function's text, as far as it is looked at. -/
structure FnIs (P : Program) (f : FuncId) (c : Code) (rs : List ResultVar) (n : Nat) : Prop where
  ex : ∃ fn, P.funcs[f]? = some fn ∧ fn.body = some c ∧ fn.results.toList = rs ∧ fn.ntmps = n ∧ (fn.name == "runtime.NumGoroutine") = false
  ok : codeOk n c = true

/-- The end: what is returned, what the lent arguments hold. -/
structure Fin (r : Arg) (o : List Arg) (res : Arg) (outs : List Arg) : Prop where
  res : WkR r res
  outs : WkA o outs

/-- What has to be shown of a function: at these arguments it returns, with this result, the lent arguments being these. -/
def FSat (P : Program) (Γ : Env) (f : FuncId) (c : Code) (rs : List ResultVar) (n : Nat) (args : List Arg) (outs : List Arg) (res : Arg) : Prop :=
  argsOk ((findNat Γ.io f).getD []) 0 args = true ∧ Nat.ble args.length n = true ∧
    awp P Γ c (fun e σ => isRet e = true ∧ (endPr Γ ((findNat Γ.io f).getD []) args rs).sat0 σ [] fun r _ _ => Fin r.1 r.2 res outs) (startFrom ((findNat Γ.io f).getD []) 0 args)

end Go.Vs

namespace Go.Vs

theorem sat0_run (P : Program) (cr : CallR) {α : Type} (p : Pr α) : ∀ (σ : St) (lg : Log) (Q : α → St → Log → Prop), p.sat0 σ lg Q →
    ∃ a τ l, p.run P cr σ = some (a, τ, l) ∧ Q a τ (l ++ lg) := by
  induction p with
  | ret a => intro σ lg Q h; exact ⟨a, σ, [], rfl, h⟩
  | fail => intro σ lg Q h; exact h.elim
  | get r k ih =>
    intro σ lg Q h
    obtain ⟨a, τ, l, hr, hq⟩ := ih (σ.get r) σ _ Q h
    exact ⟨a, τ, l ++ [(false, r)], by simp [Pr.run, hr], by simpa using hq⟩
  | put r x k ih =>
    intro σ lg Q h
    rw [Pr.sat0, fRV_eq] at h
    obtain ⟨a, τ, l, hr, hq⟩ := ih (σ.put r x) _ Q h
    exact ⟨a, τ, l ++ [(true, r)], by simp [Pr.run, hr], by simpa using hq⟩
  | req p k ih =>
    intro σ lg Q h
    obtain ⟨a, τ, l, hr, hq⟩ := ih σ lg Q h.2
    exact ⟨a, τ, l, by simp [Pr.run, hr, h.1], hq⟩
  | br b x y ihx ihy =>
    intro σ lg Q h
    cases b with
    | true =>
      obtain ⟨a, τ, l, hr, hq⟩ := ihx σ lg Q (h.1 rfl)
      exact ⟨a, τ, l, by simp [Pr.run, hr], hq⟩
    | false =>
      obtain ⟨a, τ, l, hr, hq⟩ := ihy σ lg Q (h.2 rfl)
      exact ⟨a, τ, l, by simp [Pr.run, hr], hq⟩
  | nm x k ih =>
    intro σ lg Q ⟨m, hm, h⟩
    subst hm
    obtain ⟨a, τ, l, hr, hq⟩ := ih x σ lg Q h
    exact ⟨a, τ, l, by simp [Pr.run, hr], hq⟩
  | elt x k ih =>
    intro σ lg Q ⟨m, hm, h⟩
    subst hm
    obtain ⟨a, τ, l, hr, hq⟩ := ih m σ lg Q h
    exact ⟨a, τ, l, by simp [Pr.run, hr], hq⟩
  | call f args k ih => intro σ lg Q h; exact h.elim

theorem sat_run (P : Program) {α : Type} (p : Pr α) : ∀ (σ : St) (lg : Log) (Q : α → St → Log → Prop), p.sat P σ lg Q →
    ∃ cr a τ l, p.run P cr σ = some (a, τ, l) ∧ Q a τ (l ++ lg) := by
  induction p with
  | ret a => intro σ lg Q h; exact ⟨⟨[], (.one, [])⟩, a, σ, [], rfl, h⟩
  | fail => intro σ lg Q h; exact h.elim
  | get r k ih =>
    intro σ lg Q h
    obtain ⟨cr, a, τ, l, hr, hq⟩ := ih (σ.get r) σ _ Q h
    exact ⟨cr, a, τ, l ++ [(false, r)], by simp [Pr.run, hr], by simpa using hq⟩
  | put r x k ih =>
    intro σ lg Q h
    rw [Pr.sat, fRV_eq] at h
    obtain ⟨cr, a, τ, l, hr, hq⟩ := ih (σ.put r x) _ Q h
    exact ⟨cr, a, τ, l ++ [(true, r)], by simp [Pr.run, hr], by simpa using hq⟩
  | req p k ih =>
    intro σ lg Q h
    obtain ⟨cr, a, τ, l, hr, hq⟩ := ih σ lg Q h.2
    exact ⟨cr, a, τ, l, by simp [Pr.run, hr, h.1], hq⟩
  | br b x y ihx ihy =>
    intro σ lg Q h
    cases b with
    | true =>
      obtain ⟨cr, a, τ, l, hr, hq⟩ := ihx σ lg Q (h.1 rfl)
      exact ⟨cr, a, τ, l, by simp [Pr.run, hr], hq⟩
    | false =>
      obtain ⟨cr, a, τ, l, hr, hq⟩ := ihy σ lg Q (h.2 rfl)
      exact ⟨cr, a, τ, l, by simp [Pr.run, hr], hq⟩
  | nm x k ih =>
    intro σ lg Q ⟨m, hm, h⟩
    subst hm
    obtain ⟨cr, a, τ, l, hr, hq⟩ := ih x σ lg Q h
    exact ⟨cr, a, τ, l, by simp [Pr.run, hr], hq⟩
  | elt x k ih =>
    intro σ lg Q ⟨m, hm, h⟩
    subst hm
    obtain ⟨cr, a, τ, l, hr, hq⟩ := ih m σ lg Q h
    exact ⟨cr, a, τ, l, by simp [Pr.run, hr], hq⟩
  | call f args k ih =>
    intro σ lg Q h0
    rw [Pr.sat, fArgs_eq] at h0
    obtain ⟨cr, hf, h⟩ := h0
    obtain ⟨a, τ, l, hr, hq⟩ := sat0_run P cr (k cr) σ lg Q h
    exact ⟨cr, a, τ, l, by simp [Pr.run, hr, hf], hq⟩

/-! ### The run of a sequence; a run depends on what it reads alone -/

theorem run_bind (P : Program) (cr : CallR) {α β : Type} (p : Pr α) (f : α → Pr β) : ∀ σ : St,
    (p.bind f).run P cr σ = (p.run P cr σ).bind fun x => ((f x.1).run P cr x.2.1).map fun y => (y.1, y.2.1, y.2.2 ++ x.2.2) := by
  induction p with
  | ret a => intro σ; simp [Pr.bind, Pr.run]
  | fail => intro σ; simp [Pr.bind, Pr.run]
  | get r k ih =>
    intro σ
    simp only [Pr.bind, Pr.run, ih]
    cases (k (σ.get r)).run P cr σ with
    | none => rfl
    | some x => simp; cases (f x.1).run P cr x.2.1 <;> simp
  | put r x k ih =>
    intro σ
    simp only [Pr.bind, Pr.run, ih]
    cases k.run P cr (σ.put r x) with
    | none => rfl
    | some x => simp; cases (f x.1).run P cr x.2.1 <;> simp
  | req p k ih => intro σ; simp only [Pr.bind, Pr.run]; split <;> simp [ih]
  | br b x y ihx ihy => intro σ; cases b <;> simp [Pr.bind, Pr.run, ihx, ihy]
  | nm x k ih => intro σ; simp [Pr.bind, Pr.run, ih]
  | elt x k ih => intro σ; cases x <;> simp [Pr.bind, Pr.run, ih]
  | call f args k ih => intro σ; simp only [Pr.bind, Pr.run]; split <;> simp [ih]

theorem run_bind_some {P : Program} {cr : CallR} {α β : Type} {p : Pr α} {f : α → Pr β} {σ τ : St} {b : β} {l : Log}
    (h : (p >>= f).run P cr σ = some (b, τ, l)) : ∃ a σ' l1 l2, p.run P cr σ = some (a, σ', l1) ∧ (f a).run P cr σ' = some (b, τ, l2) ∧ l = l2 ++ l1 := by
  have h' : (p.bind f).run P cr σ = some (b, τ, l) := h
  rw [run_bind] at h'
  cases hp : p.run P cr σ with
  | none => rw [hp] at h'; cases h'
  | some x =>
    rw [hp] at h'
    simp only [Option.bind_some, Option.map_eq_some_iff] at h'
    obtain ⟨y, hy, he⟩ := h'
    cases he
    exact ⟨x.1, x.2.1, x.2.2, y.2.2, by simp, hy, rfl⟩

/-- What a run has written. -/
def writes (l : Log) (r : Rs) : Prop := (true, r) ∈ l
def touches (l : Log) (r : Rs) : Prop := ∃ b, (b, r) ∈ l

theorem run_frame {P : Program} {cr : CallR} {α : Type} (p : Pr α) : ∀ {σ τ : St} {a : α} {l : Log}, p.run P cr σ = some (a, τ, l) → ∀ r, ¬ writes l r → τ.get r = σ.get r := by
  induction p with
  | ret a => intro σ τ b l h r _; simp [Pr.run] at h; rw [← h.2.1]
  | fail => intro σ τ b l h; simp [Pr.run] at h
  | get r k ih =>
    intro σ τ b l h r' hr
    simp only [Pr.run, Option.map_eq_some_iff] at h
    obtain ⟨⟨a, t, l'⟩, h1, h2⟩ := h
    cases h2
    exact ih _ h1 r' (fun hw => hr (by simp only [writes, List.mem_append]; exact .inl hw))
  | put r x k ih =>
    intro σ τ b l h r' hr
    simp only [Pr.run, Option.map_eq_some_iff] at h
    obtain ⟨⟨a, t, l'⟩, h1, h2⟩ := h
    cases h2
    rw [ih h1 r' (fun hw => hr (by simp only [writes, List.mem_append]; exact .inl hw))]
    exact St.get_put_ne _ _ (fun e => hr (by simp [writes, e]))
  | req p k ih =>
    intro σ τ b l h
    simp only [Pr.run] at h
    split at h
    · exact ih h
    · cases h
  | br b x y ihx ihy =>
    intro σ τ c l h
    cases b
    · exact ihy (by simpa [Pr.run] using h)
    · exact ihx (by simpa [Pr.run] using h)
  | nm x k ih => intro σ τ b l h; exact ih _ (by simpa [Pr.run] using h)
  | elt x k ih =>
    intro σ τ b l h
    cases x with
    | none => simp [Pr.run] at h
    | some m => exact ih _ (by simpa [Pr.run] using h)
  | call f args k ih =>
    intro σ τ b l h
    simp only [Pr.run] at h
    split at h
    · exact ih _ h
    · cases h

/-- Two states that agree on all that is touched: the same run; where one agrees elsewhere, it does so behind. -/
theorem run_agree {P : Program} {cr : CallR} {α : Type} (p : Pr α) : ∀ {σ σ2 τ : St} {a : α} {l : Log}, p.run P cr σ = some (a, τ, l) →
    (∀ r, touches l r → σ2.get r = σ.get r) → ∃ τ2, p.run P cr σ2 = some (a, τ2, l) ∧ (∀ r, τ2.get r = τ.get r ∨ (¬ writes l r ∧ τ2.get r = σ2.get r)) ∧ (∀ r, touches l r → τ2.get r = τ.get r) := by
  induction p with
  | ret a =>
    intro σ σ2 τ b l h hag
    simp [Pr.run] at h
    obtain ⟨rfl, rfl, rfl⟩ := h
    exact ⟨σ2, rfl, fun r => .inr ⟨by simp [writes], rfl⟩, fun r h => by simp [touches] at h⟩
  | fail => intro σ σ2 τ b l h; simp [Pr.run] at h
  | get r k ih =>
    intro σ σ2 τ b l h hag
    simp only [Pr.run, Option.map_eq_some_iff] at h
    obtain ⟨⟨a, t, l'⟩, h1, h2⟩ := h
    cases h2
    have hr : σ2.get r = σ.get r := hag r ⟨false, by simp⟩
    obtain ⟨τ2, h3, h4, h5⟩ := ih _ h1 (fun s hs => hag s (by obtain ⟨b, hb⟩ := hs; exact ⟨b, by simp [hb]⟩))
    refine ⟨τ2, by simp [Pr.run, hr, h3], fun s => (h4 s).imp id fun ⟨x, y⟩ => ⟨fun hw => x (by simpa [writes] using hw), y⟩, fun s hs => ?_⟩
    obtain ⟨b, hb⟩ := hs
    simp only [List.mem_append, List.mem_singleton, Prod.mk.injEq] at hb
    rcases hb with hb | ⟨rfl, rfl⟩
    · exact h5 s ⟨b, hb⟩
    · rcases h4 s with h6 | ⟨h6, h7⟩
      · exact h6
      · rw [h7, hr, run_frame _ h1 s h6]
  | put r x k ih =>
    intro σ σ2 τ b l h hag
    simp only [Pr.run, Option.map_eq_some_iff] at h
    obtain ⟨⟨a, t, l'⟩, h1, h2⟩ := h
    cases h2
    obtain ⟨τ2, h3, h4, h5⟩ := ih (σ2 := σ2.put r x) h1 (fun s hs => by
      rw [St.get_put, St.get_put]
      split
      · rfl
      · exact hag s (by obtain ⟨b, hb⟩ := hs; exact ⟨b, by simp [hb]⟩))
    refine ⟨τ2, by simp [Pr.run, h3], fun s => ?_, fun s hs => ?_⟩
    · rcases h4 s with h6 | ⟨h6, h7⟩
      · exact .inl h6
      · by_cases hs : r = s
        · subst hs
          left
          rw [h7, run_frame _ h1 r h6, St.get_put_same, St.get_put_same]
        · right
          refine ⟨fun hw => ?_, by rw [h7, St.get_put_ne _ _ hs]⟩
          simp only [writes, List.mem_append, List.mem_singleton, Prod.mk.injEq, true_and] at hw
          rcases hw with hw | hw
          · exact h6 hw
          · exact hs hw.symm
    · obtain ⟨b, hb⟩ := hs
      simp only [List.mem_append, List.mem_singleton, Prod.mk.injEq] at hb
      rcases hb with hb | ⟨rfl, rfl⟩
      · exact h5 s ⟨b, hb⟩
      · rcases h4 s with h6 | ⟨h6, h7⟩
        · exact h6
        · rw [h7, run_frame _ h1 s h6, St.get_put_same, St.get_put_same]
  | req p k ih =>
    intro σ σ2 τ b l h hag
    simp only [Pr.run] at h
    split at h
    · rename_i hp
      obtain ⟨τ2, h3, h4⟩ := ih h hag
      exact ⟨τ2, by simp [Pr.run, hp, h3], h4⟩
    · cases h
  | br b x y ihx ihy =>
    intro σ σ2 τ c l h hag
    cases b
    · obtain ⟨τ2, h3, h4⟩ := ihy (by simpa [Pr.run] using h) hag
      exact ⟨τ2, by simp [Pr.run, h3], h4⟩
    · obtain ⟨τ2, h3, h4⟩ := ihx (by simpa [Pr.run] using h) hag
      exact ⟨τ2, by simp [Pr.run, h3], h4⟩
  | nm x k ih =>
    intro σ σ2 τ b l h hag
    obtain ⟨τ2, h3, h4⟩ := ih _ (by simpa [Pr.run] using h) hag
    exact ⟨τ2, by simp [Pr.run, h3], h4⟩
  | elt x k ih =>
    intro σ σ2 τ b l h hag
    cases x with
    | none => simp [Pr.run] at h
    | some m =>
      obtain ⟨τ2, h3, h4⟩ := ih _ (by simpa [Pr.run] using h) hag
      exact ⟨τ2, by simp [Pr.run, h3], h4⟩
  | call f args k ih =>
    intro σ σ2 τ b l h hag
    simp only [Pr.run] at h
    split at h
    · rename_i hp
      obtain ⟨τ2, h3, h4⟩ := ih _ h hag
      exact ⟨τ2, by simp [Pr.run, hp, h3], h4⟩
    · cases h

end Go.Vs

namespace Go.Vs

variable {w w' : World} {β β' : Nat → Option Nat} {S S' : Nat → Prop}

theorem Rep.length {as : List AV} {vs : List Value} {fp : List Nat} (h : Rep w β S as vs fp) : as.length = vs.length := by
  induction h <;> simp_all

theorem Rep.fp_lt {as : List AV} {vs : List Value} {fp : List Nat} (h : Rep w β S as vs fp) : ∀ b ∈ fp, b < w.heap.size := by
  induction h with
  | nil => simp
  | owd hf hg hn hsz hpos hcap hmax hcur hin t ih1 ih2 =>
    intro b hb
    simp only [List.cons_append, List.mem_cons, List.mem_append] at hb
    rcases hb with rfl | hb | hb
    · exact (Array.getElem?_eq_some_iff.1 hg).1
    · exact ih1 b hb
    · exact ih2 b hb
  | own hg hin t ih1 ih2 =>
    intro b hb
    simp only [List.cons_append, List.mem_cons, List.mem_append] at hb
    rcases hb with rfl | hb | hb
    · exact (Array.getElem?_eq_some_iff.1 hg).1
    · exact ih1 b hb
    · exact ih2 b hb
  | _ => assumption

theorem Row.of_block {g o : Nat} {cs : List Value} (h : Row w g o cs) (hb : w'.heap[g]? = w.heap[g]?) : Row w' g o cs := by
  obtain ⟨cur, e, fz, hg, hc⟩ := h
  exact ⟨cur, e, fz, by rw [hb]; exact hg, hc⟩

/-- What a reading rests on stays; the shared set may turn. -/
theorem Rep.mono' {as : List AV} {vs : List Value} {fp : List Nat} (h : Rep w β S as vs fp) : ∀ {β' : Nat → Option Nat} {S' : Nat → Prop},
    (∀ b, S b → S' b ∧ w'.heap[b]? = w.heap[b]?) → (∀ b ∈ fp, w'.heap[b]? = w.heap[b]?) → (∀ b g, β b = some g → β' b = some g) → Rep w' β' S' as vs fp := by
  induction h with
  | nil => intro β' S' hS hfp hβ; exact .nil
  | v h t ih => intro β' S' hS hfp hβ; exact .v h (ih hS hfp hβ)
  | any h t ih => intro β' S' hS hfp hβ; exact .any h (ih hS hfp hβ)
  | bp hb t ih => intro β' S' hS hfp hβ; exact .bp (hβ _ _ hb) (ih hS hfp hβ)
  | nils hf t ih => intro β' S' hS hfp hβ; exact .nils hf (ih hS hfp hβ)
  | emp hf hc t ih => intro β' S' hS hfp hβ; exact .emp hf hc (ih hS hfp hβ)
  | shd hf hg hrow hn hsz hpos hcap hmax hin t ih1 ih2 => intro β' S' hS hfp hβ; exact .shd hf (hS _ hg).1 (hrow.of_block (hS _ hg).2) hn hsz hpos hcap hmax (ih1 hS (by simp) (fun _ _ h => h)) (ih2 hS hfp hβ)
  | owd hf hg hn hsz hpos hcap hmax hcur hin t ih1 ih2 =>
    intro β' S' hS hfp hβ
    refine .owd hf (by rw [hfp _ (by simp)]; exact hg) hn hsz hpos hcap hmax hcur (ih1 hS (fun b hb => hfp b (by simp [hb])) (fun _ _ h => h)) (ih2 hS (fun b hb => hfp b (by simp [hb])) hβ)
  | ep hg hrow hsz hi hin t ih1 ih2 => intro β' S' hS hfp hβ; exact .ep (hS _ hg).1 (hrow.of_block (hS _ hg).2) hsz hi (ih1 hS (by simp) (fun _ _ h => h)) (ih2 hS hfp hβ)
  | cp hg hrow hin t ih1 ih2 => intro β' S' hS hfp hβ; exact .cp (hS _ hg).1 (hrow.of_block (hS _ hg).2) (ih1 hS (by simp) (fun _ _ h => h)) (ih2 hS hfp hβ)
  | clo hin t ih1 ih2 => intro β' S' hS hfp hβ; exact .clo (ih1 hS (by simp) hβ) (ih2 hS hfp hβ)
  | own hg hin t ih1 ih2 =>
    intro β' S' hS hfp hβ
    exact .own (by rw [hfp _ (by simp)]; exact hg) (ih1 hS (fun b hb => hfp b (by simp [hb])) (fun _ _ h => h)) (ih2 hS (fun b hb => hfp b (by simp [hb])) hβ)

theorem Rep.mono {as : List AV} {vs : List Value} {fp : List Nat} (h : Rep w β S as vs fp)
    (hS : ∀ b, S b → S' b ∧ w'.heap[b]? = w.heap[b]?) (hfp : ∀ b ∈ fp, w'.heap[b]? = w.heap[b]?) (hβ : ∀ b g, β b = some g → β' b = some g) : Rep w' β' S' as vs fp :=
  h.mono' hS hfp hβ

theorem Rep.append {as bs : List AV} {vs us : List Value} {fp fq : List Nat} (h : Rep w β S as vs fp) : Rep w β S bs us fq → Rep w β S (as ++ bs) (vs ++ us) (fp ++ fq) := by
  induction h with
  | nil => intro k; simpa using k
  | v h t ih => intro k; exact .v h (ih k)
  | any h t ih => intro k; exact .any h (ih k)
  | bp hb t ih => intro k; exact .bp hb (ih k)
  | nils hf t ih => intro k; exact .nils hf (ih k)
  | emp hf hc t ih => intro k; exact .emp hf hc (ih k)
  | shd hf hg hrow hn hsz hpos hcap hmax hin t _ ih2 => intro k; exact .shd hf hg hrow hn hsz hpos hcap hmax hin (ih2 k)
  | owd hf hg hn hsz hpos hcap hmax hcur hin t _ ih2 =>
    intro k
    have := Rep.owd hf hg hn hsz hpos hcap hmax hcur hin (ih2 k)
    simpa [List.append_assoc] using this
  | ep hg hrow hsz hi hin t _ ih2 => intro k; exact .ep hg hrow hsz hi hin (ih2 k)
  | cp hg hrow hin t _ ih2 => intro k; exact .cp hg hrow hin (ih2 k)
  | clo hin t _ ih2 => intro k; exact .clo hin (ih2 k)
  | own hg hin t _ ih2 =>
    intro k
    have := Rep.own hg hin (ih2 k)
    simpa [List.append_assoc] using this

/-- One cell, split off. -/
theorem Rep.uncons {a : AV} {as : List AV} {vs : List Value} {fp : List Nat} (h : Rep w β S (a :: as) vs fp) :
    ∃ v us f1 f2, vs = v :: us ∧ fp = f1 ++ f2 ∧ Rep w β S [a] [v] f1 ∧ Rep w β S as us f2 := by
  cases h with
  | v h t => exact ⟨_, _, [], _, rfl, rfl, .v h .nil, t⟩
  | any h t => exact ⟨_, _, [], _, rfl, rfl, .any h .nil, t⟩
  | bp hb t => exact ⟨_, _, [], _, rfl, rfl, .bp hb .nil, t⟩
  | nils hf t => exact ⟨_, _, [], _, rfl, rfl, .nils hf .nil, t⟩
  | emp hf hc t => exact ⟨_, _, [], _, rfl, rfl, .emp hf hc .nil, t⟩
  | shd hf hg hrow hn hsz hpos hcap hmax hin t => exact ⟨_, _, [], _, rfl, rfl, .shd hf hg hrow hn hsz hpos hcap hmax hin .nil, t⟩
  | owd hf hg hn hsz hpos hcap hmax hcur hin t => exact ⟨_, _, _, _, rfl, by simp, .owd hf hg hn hsz hpos hcap hmax hcur hin .nil, t⟩
  | ep hg hrow hsz hi hin t => exact ⟨_, _, [], _, rfl, rfl, .ep hg hrow hsz hi hin .nil, t⟩
  | cp hg hrow hin t => exact ⟨_, _, [], _, rfl, rfl, .cp hg hrow hin .nil, t⟩
  | clo hin t => exact ⟨_, _, [], _, rfl, rfl, .clo hin .nil, t⟩
  | own hg hin t => exact ⟨_, _, _, _, rfl, by simp, .own hg hin .nil, t⟩

theorem Rep.cons {a : AV} {as : List AV} {v : Value} {us : List Value} {f1 f2 : List Nat} (h : Rep w β S [a] [v] f1) (t : Rep w β S as us f2) : Rep w β S (a :: as) (v :: us) (f1 ++ f2) := h.append t

theorem Rep.split {bs : List AV} : ∀ {as : List AV} {vs : List Value} {fp : List Nat}, Rep w β S (as ++ bs) vs fp →
    ∃ v1 v2 f1 f2, vs = v1 ++ v2 ∧ fp = f1 ++ f2 ∧ Rep w β S as v1 f1 ∧ Rep w β S bs v2 f2
  | [], vs, fp, h => ⟨[], vs, [], fp, rfl, rfl, .nil, h⟩
  | a :: as, vs, fp, h => by
    obtain ⟨v, us, f1, f2, rfl, rfl, h1, h2⟩ := Rep.uncons h
    obtain ⟨v1, v2, g1, g2, rfl, rfl, h3, h4⟩ := Rep.split (as := as) h2
    exact ⟨v :: v1, v2, f1 ++ g1, g2, rfl, by simp, h1.cons h3, h4⟩

/-- One cell in the midst. -/
theorem Rep.at {as : List AV} {vs : List Value} {fp : List Nat} (h : Rep w β S as vs fp) {c : Nat} {a : AV} (ha : as[c]? = some a) :
    ∃ v f1 fc f2, vs[c]? = some v ∧ fp = f1 ++ fc ++ f2 ∧ Rep w β S [a] [v] fc ∧
      Rep w β S (as.take c) (vs.take c) f1 ∧ Rep w β S (as.drop (c + 1)) (vs.drop (c + 1)) f2 := by
  obtain ⟨hc, rfl⟩ := List.getElem?_eq_some_iff.1 ha
  have e : as = as.take c ++ as[c] :: as.drop (c + 1) := by simp
  rw [e] at h
  obtain ⟨v1, v2, f1, f2, rfl, rfl, h1, h2⟩ := Rep.split h
  obtain ⟨v, us, g1, g2, rfl, rfl, h3, h4⟩ := Rep.uncons h2
  have hl : v1.length = c := by rw [← h1.length]; simp; omega
  refine ⟨v, f1, g1, g2, by simp [hl], by simp, h3, ?_, ?_⟩
  · simpa [hl] using h1
  · have : (v1 ++ v :: us).drop (c + 1) = us := by rw [← hl]; simp
    rw [this]; exact h4

/-- .. and another laid in its place. -/
theorem Rep.set {as : List AV} {vs : List Value} {f1 f2 fc : List Nat} {c : Nat} {a : AV} {v : Value} (hc : c < as.length) (hl : as.length = vs.length)
    (h1 : Rep w β S (as.take c) (vs.take c) f1) (h : Rep w β S [a] [v] fc) (h2 : Rep w β S (as.drop (c + 1)) (vs.drop (c + 1)) f2) :
    Rep w β S (as.set c a) (vs.set c v) (f1 ++ fc ++ f2) := by
  rw [List.set_eq_take_append_cons_drop, List.set_eq_take_append_cons_drop, if_pos hc, if_pos (by omega)]
  have := h1.append (h.cons h2)
  simpa [List.append_assoc] using this

theorem Rep.take {as : List AV} {vs : List Value} {fp : List Nat} (h : Rep w β S as vs fp) (n : Nat) :
    ∃ f1 f2, fp = f1 ++ f2 ∧ Rep w β S (as.take n) (vs.take n) f1 ∧ Rep w β S (as.drop n) (vs.drop n) f2 := by
  have e : as = as.take n ++ as.drop n := by simp
  rw [e] at h
  obtain ⟨v1, v2, f1, f2, rfl, rfl, h1, h2⟩ := Rep.split h
  have hl := h1.length
  refine ⟨f1, f2, rfl, ?_, ?_⟩
  · rcases Nat.lt_or_ge n as.length with hn | hn
    · have : v1.length = n := by rw [← hl]; simp; omega
      rw [List.take_left' this]; exact h1
    · have h2l := h2.length
      simp only [List.length_drop] at h2l
      have : v2 = [] := List.eq_nil_of_length_eq_zero (by omega)
      subst this
      have h3 : v1.length ≤ n := by rw [← hl]; simp; omega
      rw [List.append_nil, List.take_of_length_le h3]; exact h1
  · rcases Nat.lt_or_ge n as.length with hn | hn
    · have : v1.length = n := by rw [← hl]; simp; omega
      rw [List.drop_left' this]; exact h2
    · have h2l := h2.length
      simp only [List.length_drop] at h2l
      have : v2 = [] := List.eq_nil_of_length_eq_zero (by omega)
      subst this
      have h3 : v1.length ≤ n := by rw [← hl]; simp; omega
      rw [List.append_nil, List.drop_of_length_le h3]; exact h2

theorem shcL_append (as bs : List AV) : shcL (as ++ bs) = shcL as ++ shcL bs := by
  induction as with
  | nil => simp [shcL]
  | cons a l ih => simp [shcL, ih]

theorem shcLL_flatten (els : List (List AV)) : (shcLL els).flatten = shcL els.flatten := by
  induction els with
  | nil => simp [shcLL, shcL]
  | cons a l ih => simp [shcLL, shcL_append, ih]

theorem shcL_length (as : List AV) : (shcL as).length = as.length := by
  induction as with
  | nil => simp [shcL]
  | cons a l ih => simp [shcL, ih]

theorem shcLL_length (els : List (List AV)) : (shcLL els).length = els.length := by
  induction els with
  | nil => simp [shcLL]
  | cons a l ih => simp [shcLL, ih]

theorem shcLL_sz {els : List (List AV)} {sz : Nat} (h : ∀ el ∈ els, el.length = sz) : ∀ el ∈ shcLL els, el.length = sz := by
  induction els with
  | nil => simp [shcLL]
  | cons a l ih =>
    simp only [shcLL, List.mem_cons, forall_eq_or_imp]
    exact ⟨by rw [shcL_length]; exact h a (by simp), ih fun el hel => h el (by simp [hel])⟩

theorem shcL_getElem? (as : List AV) (c : Nat) : (shcL as)[c]? = as[c]?.map shc := by
  induction as generalizing c with
  | nil => simp [shcL]
  | cons a l ih => cases c <;> simp [shcL, ih]

theorem flatten_length {els : List (List AV)} {sz : Nat} (h : ∀ el ∈ els, el.length = sz) : els.flatten.length = els.length * sz := by
  induction els with
  | nil => simp
  | cons a l ih =>
    simp only [List.flatten_cons, List.length_append, List.length_cons]
    rw [ih fun el hel => h el (by simp [hel]), h a (by simp), Nat.add_mul]
    omega

theorem Row.own {g : Nat} {cur : Array Value} {e : TypeId} (hg : w.heap[g]? = some (.cells cur e (0, 0))) (m : Nat) : Row w g 0 (cur.toList.take m) := by
  refine ⟨cur, e, (0, 0), hg, ?_⟩
  simp only [List.drop_zero, List.length_take]
  rcases Nat.le_total m cur.toList.length with h | h
  · rw [Nat.min_eq_left h]
  · rw [Nat.min_eq_right h, List.take_of_length_le h, List.take_of_length_le (Nat.le_refl _)]

/-- Read as shared: what was owned is among what is shared. -/
theorem Rep.shc' {as : List AV} {vs : List Value} {fp : List Nat} (h : Rep w β S as vs fp) : ∀ {S' : Nat → Prop}, (∀ b, S b → S' b) → (∀ b ∈ fp, S' b) → Rep w β S' (shcL as) vs [] := by
  induction h with
  | nil => intro S' hS hfp; simpa [shcL] using Rep.nil
  | v h t ih => intro S' hS hfp; simpa [shcL, Vs.shc] using Rep.v h (ih hS hfp)
  | any h t ih => intro S' hS hfp; simpa [shcL, Vs.shc] using Rep.any h (ih hS hfp)
  | bp hb t ih => intro S' hS hfp; simpa [shcL, Vs.shc] using Rep.bp hb (ih hS hfp)
  | @nils _ _ own _ _ _ _ _ hf t ih => intro S' hS hfp; cases own <;> simpa [shcL, Vs.shc, shcLL] using Rep.nils hf (ih hS hfp)
  | emp hf hc t ih => intro S' hS hfp; simpa [shcL, Vs.shc, shcLL] using Rep.emp hf hc (ih hS hfp)
  | shd hf hg hrow hn hsz hpos hcap hmax hin t ih1 ih2 =>
    intro S' hS hfp
    simpa [shcL, Vs.shc] using Rep.shd hf (hS _ hg) hrow hn hsz hpos hcap hmax (hin.mono (fun b hb => ⟨hS b hb, rfl⟩) (by simp) (fun _ _ h => h)) (ih2 hS hfp)
  | @owd _ _ nf sz g n cap els cur e as vs fi fp hf hg hn hsz hpos hcap hmax hcur hin t ih1 ih2 =>
    intro S' hS hfp
    have h1 := ih1 hS (fun b hb => hfp b (by simp [hb]))
    rw [← shcLL_flatten] at h1
    have hr := Row.own hg (n * sz)
    simpa [shcL, Vs.shc] using Rep.shd (o := 0) hf (hfp g (by simp)) hr (by rw [shcLL_length]; exact hn) (shcLL_sz hsz) hpos hcap hmax h1 (ih2 hS fun b hb => hfp b (by simp [hb]))
  | ep hg hrow hsz hi hin t ih1 ih2 => intro S' hS hfp; simpa [shcL, Vs.shc] using Rep.ep (hS _ hg) hrow hsz hi (hin.mono (fun b hb => ⟨hS b hb, rfl⟩) (by simp) (fun _ _ h => h)) (ih2 hS hfp)
  | cp hg hrow hin t ih1 ih2 => intro S' hS hfp; simpa [shcL, Vs.shc] using Rep.cp (hS _ hg) hrow (hin.mono (fun b hb => ⟨hS b hb, rfl⟩) (by simp) (fun _ _ h => h)) (ih2 hS hfp)
  | own hg hin t ih1 ih2 => intro S' hS hfp; simpa [shcL, Vs.shc] using Rep.any (x := .pointer (some ⟨_, 0, none⟩)) rfl (ih2 hS fun b hb => hfp b (by simp [hb]))
  | clo hin t ih1 ih2 => intro S' hS hfp; simpa [shcL, Vs.shc] using Rep.clo (hin.mono (fun b hb => ⟨hS b hb, rfl⟩) (by simp) (fun _ _ h => h)) (ih2 hS hfp)

theorem Rep.shc {as : List AV} {vs : List Value} {fp : List Nat} (h : Rep w β S as vs fp) (hS : ∀ b, S b → S' b) (hfp : ∀ b ∈ fp, S' b) : Rep w β S' (shcL as) vs [] :=
  h.shc' hS hfp

/-- No memory of its own at the top: none at all. -/
theorem Rep.fp_nil {a : AV} {v : Value} {fp : List Nat} (h : Rep w β S [a] [v] fp) (ho : a.owns = false) : fp = [] := by
  cases h with
  | owd hf hg hn hsz hpos hcap hmax hcur hin t => simp [AV.owns] at ho
  | own hg hin t => simp [AV.owns] at ho
  | _ => rename_i t; cases t; rfl

theorem Rep.one_iff {a : AV} {vs : List Value} {fp : List Nat} (h : Rep w β S [a] vs fp) : ∃ v, vs = [v] := by
  have := h.length
  match vs, this with
  | [x], _ => exact ⟨x, rfl⟩

theorem oneCell_scalar {x : Value} (h : scalar x = true) : x.oneCell' = true := by
  cases x <;> simp_all [scalar, Value.oneCell']

theorem Rep.oneCell {a : AV} {v : Value} {fp : List Nat} (h : Rep w β S [a] [v] fp) : v.oneCell' = true := by
  cases h with
  | v h t => exact oneCell_scalar h
  | any h t => exact h
  | _ => rfl

end Go.Vs

namespace Go.Vs

/-- What a call began with. -/
structure Ctx where
  S0 : Nat → Prop
  fpIn : List Nat
  w0 : World
  cv0 : Nat → List Value
  tab : Option (Nat × Array Value)

/-- What is known of the concrete side. -/
structure Wit where
  β : Nat → Option Nat
  cv : Rs → List Value
  fp : Rs → List Nat
  hand : List Nat

def live (σ : St) (r : Rs) : Prop := ∃ v s tvs, σ.get r = (v, some (s, tvs))

def Wr (σ : St) (W : Wit) (b : Nat) : Prop := (∃ r, live σ r ∧ b ∈ W.fp r) ∨ (∃ x, W.β x = some b) ∨ b ∈ W.hand

def Sh (C : Ctx) (σ : St) (W : Wit) (w : World) (b : Nat) : Prop := (C.S0 b ∨ C.w0.heap.size ≤ b ∨ b ∈ C.fpIn) ∧ b < w.heap.size ∧ ¬ Wr σ W b

def own : TV → AV
  | .val a => a
  | _ => .any

def NavAt (w : World) : AV → Value → Path → AV → Value → Prop
  | a, u, [], a', x => a = a' ∧ u = x
  | a, u, (i, k) :: p, a', x => ∃ nf sz els g n cap cur e el a1 y, a = .sl true nf sz els ∧ u = .slice (some ⟨g, 0, none⟩) n cap ∧
      w.heap[g]? = some (.cells cur e (0, 0)) ∧ els[i]? = some el ∧ el[k]? = some a1 ∧ cur[i * sz + k]? = some y ∧ NavAt w a1 y p a' x

def VerB (σ : St) (r : Rs) (ver : Nat × Nat) : Prop :=
  match σ.get r with
  | (v, some _) => ver.1 < v.1 ∨ (ver.1 = v.1 ∧ ver.2 ≤ v.2)
  | (v, none) => ver.1 < v.1

/-- The place that a view leads to holds the value y. -/
def Loc (w : World) (σ : St) (W : Wit) (r : Rs) (c : Nat) (ver : Nat × Nat) (p : Path) (y : Value) : Prop :=
  VerB σ r ver ∧ ∀ v s tvs, σ.get r = (v, some (s, tvs)) → verOk v ver p = true → ∃ u, (W.cv r)[c]? = some u ∧
    ((p = [] ∧ y = u) ∨ (p ≠ [] ∧ ∃ a a', tvs[c]? = some (.val a) ∧ NavAt w a u p a' y))

/-- The pointer to a cell of an element; at size 0: a slice over the block, its length i, its room k. -/
def erv (g sz i k : Nat) : Value := match sz with
  | 0 => .slice (some ⟨g, 0, none⟩) i k
  | _ + 1 => .pointer (some ⟨g, i * sz + k, none⟩)

theorem erv_pos {g sz i k : Nat} (h : 0 < sz) : erv g sz i k = .pointer (some ⟨g, i * sz + k, none⟩) := by
  cases sz with
  | zero => omega
  | succ n => rfl

theorem erv_one (g sz i k : Nat) : (erv g sz i k).oneCell' = true := by cases sz <;> rfl

def RefOk (w : World) (σ : St) (W : Wit) : TV → Value → Prop
  | .val _, _ => True
  | .ref r c ver p, x => x.oneCell' = true ∧ Loc w σ W r c ver p x
  | .eref r c ver p sz i k, x => ∃ g n cap, x = erv g sz i k ∧ Loc w σ W r c ver p (.slice (some ⟨g, 0, none⟩) n cap)

abbrev shapeOk := shapeFit

structure SR (C : Ctx) (σ : St) (a : Act) (w : World) (W : Wit) : Prop where
  slot : ∀ i v s tvs, σ.get (.sl i) = (v, some (s, tvs)) → a.tmps[i]? = some (shVal s (W.cv (.sl i))) ∧ shapeOk s tvs.length
  box : ∀ b v s tvs, σ.get (.bx b) = (v, some (s, tvs)) → ∃ g T, W.β b = some g ∧ w.heap[g]? = some (.cells (W.cv (.bx b)).toArray T (0, 0))
  boxl : ∀ b g, W.β b = some g → live σ (.bx b)
  ext : ∀ i, live σ (.ex i) → W.cv (.ex i) = C.cv0 i
  rep : ∀ r v s tvs, σ.get r = (v, some (s, tvs)) → Rep w W.β (Sh C σ W w) (tvs.map own) (W.cv r) (W.fp r)
  refs : ∀ r v s tvs, σ.get r = (v, some (s, tvs)) → ∀ (c : Nat) (t : TV) (x : Value), tvs[c]? = some t → (W.cv r)[c]? = some x → RefOk w σ W t x
  nd : ∀ r, live σ r → (W.fp r).Nodup
  dis : ∀ r r', live σ r → live σ r' → r ≠ r' → ∀ b ∈ W.fp r, b ∉ W.fp r'
  binj : ∀ x y g, W.β x = some g → W.β y = some g → x = y
  bdis : ∀ x g r, W.β x = some g → live σ r → g ∉ W.fp r
  brng : ∀ x g, W.β x = some g → C.w0.heap.size ≤ g
  rng : ∀ r, live σ r → ∀ b ∈ W.fp r, C.w0.heap.size ≤ b ∨ b ∈ C.fpIn
  hnd : W.hand.Nodup
  hdis : ∀ b ∈ W.hand, (∀ r, live σ r → b ∉ W.fp r) ∧ (∀ x, W.β x ≠ some b)
  hrng : ∀ b ∈ W.hand, (C.w0.heap.size ≤ b ∨ b ∈ C.fpIn) ∧ b < w.heap.size
  keep : Keeps C.w0 w C.fpIn
  dfr : a.defers = []
  gl : ∀ g cs, C.tab = some (g, cs) → Sh C σ W w g ∧ ∃ t fz, w.heap[g]? = some (.cells cs t fz)

/-- The context's table is the program's. -/
class TabFact (C : Ctx) (P : Program) : Prop where
  eq : C.tab = tabOf P

variable {C : Ctx} {σ : St} {a : Act} {w : World} {W : Wit}

theorem live_iff {r : Rs} : live σ r ↔ (σ.get r).2.isSome = true := by
  constructor
  · rintro ⟨v, s, tvs, h⟩; simp [h]
  · intro h
    cases hg : σ.get r with
    | mk v o => cases o with
      | none => simp [hg] at h
      | some x => exact ⟨v, x.1, x.2, hg⟩

theorem Keeps.refl (w : World) (fp : List Nat) : Keeps w w fp := ⟨rfl, rfl, rfl, Nat.le_refl _, fun _ _ _ => rfl⟩

theorem flat_get {sz : Nat} {el : List AV} {a1 : AV} {k : Nat} (hk : k < sz) (hk' : el[k]? = some a1) : ∀ (l : List (List AV)) (i : Nat), (∀ e ∈ l, e.length = sz) → l[i]? = some el → l.flatten[i * sz + k]? = some a1
  | [], i, _, h => by simp at h
  | e0 :: l, 0, hl, hi => by
    simp at hi; subst hi
    simp only [Nat.zero_mul, Nat.zero_add, List.flatten_cons]
    rw [List.getElem?_append_left (by rw [hl e0 (by simp)]; exact hk)]
    exact hk'
  | e0 :: l, i + 1, hl, hi => by
    simp only [List.getElem?_cons_succ] at hi
    have h0 := hl e0 (by simp)
    simp only [List.flatten_cons]
    rw [List.getElem?_append_right (by rw [h0, Nat.add_mul]; omega)]
    have : (i + 1) * sz + k - e0.length = i * sz + k := by rw [h0, Nat.add_mul]; omega
    rw [this]
    exact flat_get hk hk' l i (fun e he => hl e (by simp [he])) hi

/-- One step of a path, on the concrete side. -/
theorem Rep.step {w : World} {β : Nat → Option Nat} {S : Nat → Prop} {nf : NF} {sz g n cap : Nat} {els : List (List AV)} {cur : Array Value} {e : TypeId} {fc : List Nat} {i k : Nat} {el : List AV} {a1 : AV} {y : Value}
    (h : Rep w β S [.sl true nf sz els] [.slice (some ⟨g, 0, none⟩) n cap] fc) (hg : w.heap[g]? = some (.cells cur e (0, 0)))
    (hi : els[i]? = some el) (hk : el[k]? = some a1) (hy : cur[i * sz + k]? = some y) : ∃ f, (∀ b ∈ f, b ∈ fc) ∧ Rep w (fun _ => none) S [a1] [y] f ∧ g ∈ fc := by
  cases h with
  | owd hf hg2 hn2 hsz hpos hcap hmax hcur hin t =>
    rw [hg] at hg2
    cases hg2
    have hil : i < els.length := (List.getElem?_eq_some_iff.1 hi).1
    have hkl : k < sz := by rw [← hsz el (List.mem_of_getElem? hi)]; exact (List.getElem?_eq_some_iff.1 hk).1
    have hflat := flat_get hkl hk els i hsz hi
    obtain ⟨y', g1, gc, g2, hy', hgf, hone', _⟩ := hin.at hflat
    have hlt : i * sz + k < els.length * sz := by
      have : (i + 1) * sz ≤ els.length * sz := Nat.mul_le_mul_right _ hil
      rw [Nat.add_mul] at this; omega
    have : (cur.toList.take (n * sz))[i * sz + k]? = some y := by
      rw [List.getElem?_take, if_pos (by rw [← hn2]; exact hlt)]
      simpa using hy
    rw [this] at hy'; cases hy'
    exact ⟨gc, fun b hb => by rw [hgf]; simp [hb], hone', by simp⟩

theorem NavAt.kept {w w' : World} {S : Nat → Prop} : ∀ (p : Path) {β : Nat → Option Nat} {a a' : AV} {u x : Value} {fc : List Nat}, NavAt w a u p a' x → Rep w β S [a] [u] fc →
    (∀ g ∈ fc, w'.heap[g]? = w.heap[g]?) → NavAt w' a u p a' x
  | [], _, _, _, _, _, _, h, _, _ => h
  | (i, k) :: p, _, _, _, _, _, _, h, hr, hs => by
    obtain ⟨nf, sz, els, g, n, cap, cur, e, el, a1, y1, rfl, rfl, hg, hi, hk, hy, hrest⟩ := h
    obtain ⟨f, hf, hone, hgf⟩ := hr.step hg hi hk hy
    exact ⟨nf, sz, els, g, n, cap, cur, e, el, a1, y1, rfl, rfl, by rw [hs g hgf]; exact hg, hi, hk, hy, NavAt.kept p hrest hone fun b hb => hs b (hf b hb)⟩

/-- The world turns at blocks in hand alone, and grows; what is in hand behind it: some of what was, some new blocks. -/
theorem SR.world (h : SR C σ a w W) {w' : World} {hand' : List Nat} (hk : Keeps w w' W.hand) (hn : hand'.Nodup)
    (hh : ∀ b ∈ hand', (b ∈ W.hand ∨ w.heap.size ≤ b) ∧ b < w'.heap.size) :
    SR C σ a w' { W with hand := hand' } ∧
    (∀ b, Sh C σ W w b → Sh C σ { W with hand := hand' } w' b ∧ w'.heap[b]? = w.heap[b]?) ∧
    (∀ t x, RefOk w σ W t x → RefOk w' σ { W with hand := hand' } t x) := by
  have hfl : ∀ r, live σ r → ∀ b ∈ W.fp r, b < w.heap.size := fun r ⟨v, s, tvs, hr⟩ => (h.rep r v s tvs hr).fp_lt
  have hbl : ∀ x g, W.β x = some g → g < w.heap.size := fun x g hx => by
    obtain ⟨v, s, tvs, hr⟩ := h.boxl x g hx
    obtain ⟨g', T, h1, h2⟩ := h.box x v s tvs hr
    rw [hx] at h1; cases h1
    exact (Array.getElem?_eq_some_iff.1 h2).1
  have hfs : ∀ r, live σ r → ∀ b ∈ W.fp r, w'.heap[b]? = w.heap[b]? := fun r hl b hb => hk.block b (hfl r hl b hb) fun hh => (h.hdis b hh).1 r hl hb
  have hSh : ∀ b, Sh C σ W w b → Sh C σ { W with hand := hand' } w' b ∧ w'.heap[b]? = w.heap[b]? := by
    rintro b ⟨h1, h2, h3⟩
    refine ⟨⟨h1, Nat.lt_of_lt_of_le h2 hk.size, ?_⟩, hk.block b h2 fun hb => h3 (.inr (.inr hb))⟩
    rintro (⟨r, hr, hb⟩ | ⟨x, hx⟩ | hb)
    · exact h3 (.inl ⟨r, hr, hb⟩)
    · exact h3 (.inr (.inl ⟨x, hx⟩))
    · rcases (hh b hb).1 with h4 | h4
      · exact h3 (.inr (.inr h4))
      · omega
  have hloc : ∀ r' c' ver p y, Loc w σ W r' c' ver p y → Loc w' σ { W with hand := hand' } r' c' ver p y := by
    rintro r' c' ver p y ⟨h1, h2⟩
    refine ⟨h1, fun v' s' tvs' hr' hv' => ?_⟩
    obtain ⟨u, hu, h3⟩ := h2 v' s' tvs' hr' hv'
    refine ⟨u, hu, h3.imp id ?_⟩
    rintro ⟨hp, b, b', hb, hnv⟩
    refine ⟨hp, b, b', hb, ?_⟩
    -- the blocks on the way are owned by r'
    have hrep := h.rep r' v' s' tvs' hr'
    have hat : (tvs'.map own)[c']? = some b := by simp [hb, own]
    obtain ⟨u', f1, fc, f2, hu', hf, hone, _⟩ := hrep.at hat
    rw [hu] at hu'; cases hu'
    have hsame : ∀ g ∈ fc, w'.heap[g]? = w.heap[g]? := fun g hg => hfs r' ⟨v', s', tvs', hr'⟩ g (by rw [hf]; simp [hg])
    exact NavAt.kept p hnv hone hsame
  have hRef : ∀ t x, RefOk w σ W t x → RefOk w' σ { W with hand := hand' } t x := by
    intro t x hold
    cases t with
    | val a => trivial
    | ref r' c' ver p => exact ⟨hold.1, hloc _ _ _ _ _ hold.2⟩
    | eref r' c' ver p sz i k =>
      obtain ⟨g, n, cap, hx, hl⟩ := hold
      exact ⟨g, n, cap, hx, hloc _ _ _ _ _ hl⟩
  refine ⟨⟨h.slot, ?_, h.boxl, h.ext, ?_, ?_, h.nd, h.dis, h.binj, h.bdis, h.brng, h.rng, hn, ?_, ?_, ?_, h.dfr, fun g cs h1 => by
    obtain ⟨h2, t, fz, h3⟩ := h.gl g cs h1
    exact ⟨(hSh g h2).1, t, fz, by rw [(hSh g h2).2]; exact h3⟩⟩, hSh, hRef⟩
  · intro b v s tvs hr
    obtain ⟨g, T, h1, h2⟩ := h.box b v s tvs hr
    refine ⟨g, T, h1, ?_⟩
    rw [hk.block g (hbl b g h1) fun hg => (h.hdis g hg).2 b h1]
    exact h2
  · intro r v s tvs hr
    exact (h.rep r v s tvs hr).mono hSh (hfs r ⟨v, s, tvs, hr⟩) fun _ _ hb => hb
  · intro r v s tvs hr c t x ht hx
    have hold := h.refs r v s tvs hr c t x ht hx
    exact hRef t x hold
  · intro b hb
    rcases (hh b hb).1 with h1 | h1
    · exact h.hdis b h1
    · exact ⟨fun r hr hbr => by have := hfl r hr b hbr; omega, fun x hx => by have := hbl x b hx; omega⟩
  · intro b hb
    refine ⟨?_, (hh b hb).2⟩
    rcases (hh b hb).1 with h1 | h1
    · exact (h.hrng b h1).1
    · have := h.keep.size; exact .inl (by omega)
  · refine ⟨hk.os.trans h.keep.os, hk.tape.trans h.keep.tape, hk.output.trans h.keep.output, Nat.le_trans h.keep.size hk.size, fun b hb hbf => ?_⟩
    rw [hk.block b (Nat.lt_of_lt_of_le hb h.keep.size) fun hbh => ?_]
    · exact h.keep.block b hb hbf
    · rcases (h.hrng b hbh).1 with h1 | h1
      · omega
      · exact hbf h1

end Go.Vs

namespace Go.Vs

variable {C : Ctx} {σ : St} {a : Act} {w : World} {W : Wit}

def upd {α : Type} (f : Rs → α) (r : Rs) (x : α) : Rs → α := fun s => if s = r then x else f s

theorem upd_same {α : Type} (f : Rs → α) (r : Rs) (x : α) : upd f r x r = x := by simp [upd]
theorem upd_ne {α : Type} (f : Rs → α) {r s : Rs} (x : α) (h : s ≠ r) : upd f r x s = f s := by simp [upd, h]

theorem live_put {r s : Rs} {x : Nat × Nat} {y : Shape × List TV} : live (σ.put r (x, some y)) s ↔ s = r ∨ live σ s := by
  unfold live
  rw [St.get_put]
  by_cases h : r = s
  · simp [h]; exact ⟨y.1, y.2, rfl⟩
  · simp [h, Ne.symm h]

theorem VerB.put {r s : Rs} {x : Nat × Nat} {y : Shape × List TV} {ver : Nat × Nat} (hne : r ≠ s) (h : VerB σ s ver) : VerB (σ.put r (x, some y)) s ver := by
  unfold VerB at *
  rw [St.get_put_ne _ _ hne]
  exact h

theorem SR.congr {σ' : St} (hg : ∀ r, σ'.get r = σ.get r) (h : SR C σ a w W) : SR C σ' a w W := by
  have hl : live σ' = live σ := by funext r; simp [live, hg r]
  have hW : Wr σ' W = Wr σ W := by funext b; simp [Wr, hl]
  have hS : Sh C σ' W w = Sh C σ W w := by funext b; simp [Sh, hW]
  have hV : VerB σ' = VerB σ := by funext r v; simp [VerB, hg r]
  have hL : Loc w σ' W = Loc w σ W := by funext r c ver p y; simp [Loc, hV, hg r]
  have hR : RefOk w σ' W = RefOk w σ W := by funext t x; cases t <;> simp [RefOk, hL]
  refine ⟨?_, ?_, ?_, ?_, ?_, ?_, ?_, ?_, h.binj, ?_, h.brng, ?_, h.hnd, ?_, h.hrng, h.keep, h.dfr, by rw [hS]; exact h.gl⟩
  · intro i v s tvs hr; rw [hg] at hr; exact h.slot i v s tvs hr
  · intro i v s tvs hr; rw [hg] at hr; exact h.box i v s tvs hr
  · rw [hl]; exact h.boxl
  · rw [hl]; exact h.ext
  · intro i v s tvs hr; rw [hg] at hr; rw [hS]; exact h.rep i v s tvs hr
  · intro i v s tvs hr; rw [hg] at hr; rw [hR]; exact h.refs i v s tvs hr
  · rw [hl]; exact h.nd
  · rw [hl]; exact h.dis
  · rw [hl]; exact h.bdis
  · rw [hl]; exact h.rng
  · rw [hl]; exact h.hdis

/-- One resource is laid anew; the world stays. -/
theorem SR.put (h : SR C σ a w W) {r : Rs} {x : Nat × Nat} {s : Shape} {tvs : List TV} {vs : List Value} {f hand' : List Nat} {a' : Act}
    (hrep : Rep w W.β (Sh C σ W w) (tvs.map own) vs f)
    (hpart : ∀ b, b ∈ f ∨ b ∈ hand' → (live σ r ∧ b ∈ W.fp r) ∨ b ∈ W.hand) (hnd : f.Nodup) (hnh : hand'.Nodup) (hdj : ∀ b ∈ f, b ∉ hand')
    (hloc : ∀ c ver p y, Loc w σ W r c ver p y → Loc w (σ.put r (x, some (s, tvs))) { W with cv := upd W.cv r vs, fp := upd W.fp r f, hand := hand' } r c ver p y)
    (hrefs : ∀ (c : Nat) (t : TV) (z : Value), tvs[c]? = some t → vs[c]? = some z → RefOk w σ W t z)
    (hslot : ∀ i, r = .sl i → a'.tmps[i]? = some (shVal s vs) ∧ shapeOk s tvs.length)
    (hslot' : ∀ i, r ≠ .sl i → a'.tmps[i]? = a.tmps[i]?)
    (hbox : ∀ b, r = .bx b → live σ r ∧ vs = W.cv r) (hext : ∀ i, r = .ex i → live σ r ∧ vs = W.cv r) (hdfr : a'.defers = []) :
    SR C (σ.put r (x, some (s, tvs))) a' w { W with cv := upd W.cv r vs, fp := upd W.fp r f, hand := hand' } := by
  have hfr : ∀ b ∈ f, (live σ r ∧ b ∈ W.fp r) ∨ b ∈ W.hand := fun b hb => hpart b (.inl hb)
  have hhr : ∀ b ∈ hand', (live σ r ∧ b ∈ W.fp r) ∨ b ∈ W.hand := fun b hb => hpart b (.inr hb)
  have hSh : ∀ b, Sh C σ W w b → Sh C (σ.put r (x, some (s, tvs))) { W with cv := upd W.cv r vs, fp := upd W.fp r f, hand := hand' } w b := by
    rintro b ⟨h1, h2, h3⟩
    refine ⟨h1, h2, ?_⟩
    rintro (⟨r', hr', hb⟩ | hx | hb)
    · by_cases he : r' = r
      · subst he
        simp only [upd_same] at hb
        rcases hfr b hb with ⟨h4, h5⟩ | h4
        · exact h3 (.inl ⟨_, h4, h5⟩)
        · exact h3 (.inr (.inr h4))
      · simp only [upd_ne _ _ he] at hb
        rcases live_put.1 hr' with h4 | h4
        · exact he h4
        · exact h3 (.inl ⟨r', h4, hb⟩)
    · exact h3 (.inr (.inl hx))
    · rcases hhr b hb with ⟨h4, h5⟩ | h4
      · exact h3 (.inl ⟨_, h4, h5⟩)
      · exact h3 (.inr (.inr h4))
  have hLoc : ∀ r' c ver p y, Loc w σ W r' c ver p y → Loc w (σ.put r (x, some (s, tvs))) { W with cv := upd W.cv r vs, fp := upd W.fp r f, hand := hand' } r' c ver p y := by
    intro r' c ver p y hl
    by_cases he : r' = r
    · subst he; exact hloc c ver p y hl
    · refine ⟨hl.1.put (Ne.symm he), fun v s' tvs' hr hv => ?_⟩
      rw [St.get_put_ne _ _ (Ne.symm he)] at hr
      simpa [upd_ne _ _ he] using hl.2 v s' tvs' hr hv
  have hRef : ∀ t z, RefOk w σ W t z → RefOk w (σ.put r (x, some (s, tvs))) { W with cv := upd W.cv r vs, fp := upd W.fp r f, hand := hand' } t z := by
    intro t z ht
    cases t with
    | val a => trivial
    | ref r' c ver p => exact ⟨ht.1, hLoc _ _ _ _ _ ht.2⟩
    | eref r' c ver p sz i k =>
      obtain ⟨g, n, cap, hx, hl⟩ := ht
      exact ⟨g, n, cap, hx, hLoc _ _ _ _ _ hl⟩
  refine ⟨?_, ?_, ?_, ?_, ?_, ?_, ?_, ?_, h.binj, ?_, h.brng, ?_, hnh, ?_, ?_, h.keep, hdfr, fun g cs h1 => ⟨hSh g (h.gl g cs h1).1, (h.gl g cs h1).2⟩⟩
  · intro i v s' tvs' hr
    by_cases he : r = .sl i
    · subst he
      rw [St.get_put_same] at hr
      cases hr
      simpa [upd_same] using hslot i rfl
    · rw [St.get_put_ne _ _ he] at hr
      rw [hslot' i he]
      simpa [upd_ne _ _ (Ne.symm he)] using h.slot i v s' tvs' hr
  · intro b v s' tvs' hr
    by_cases he : r = .bx b
    · subst he
      obtain ⟨⟨v0, s0, t0, h0⟩, hvs⟩ := hbox b rfl
      obtain ⟨g, T, h1, h2⟩ := h.box b v0 s0 t0 h0
      exact ⟨g, T, h1, by simpa [upd_same, hvs] using h2⟩
    · rw [St.get_put_ne _ _ he] at hr
      simpa [upd_ne _ _ (Ne.symm he)] using h.box b v s' tvs' hr
  · intro b g hb
    exact live_put.2 (.inr (h.boxl b g hb))
  · intro i hl
    by_cases he : r = .ex i
    · subst he
      obtain ⟨h0, hvs⟩ := hext i rfl
      simpa [upd_same, hvs] using h.ext i h0
    · rcases live_put.1 hl with h1 | h1
      · exact absurd h1.symm he
      · simpa [upd_ne _ _ (Ne.symm he)] using h.ext i h1
  · intro r' v s' tvs' hr
    by_cases he : r = r'
    · subst he
      rw [St.get_put_same] at hr
      cases hr
      simp only [upd_same]
      exact hrep.mono (fun b hb => ⟨hSh b hb, rfl⟩) (fun _ _ => rfl) fun _ _ hb => hb
    · rw [St.get_put_ne _ _ he] at hr
      simp only [upd_ne _ _ (Ne.symm he)]
      exact (h.rep r' v s' tvs' hr).mono (fun b hb => ⟨hSh b hb, rfl⟩) (fun _ _ => rfl) fun _ _ hb => hb
  · intro r' v s' tvs' hr c t z ht hz
    by_cases he : r = r'
    · subst he
      rw [St.get_put_same] at hr
      cases hr
      simp only [upd_same] at hz
      exact hRef t z (hrefs c t z ht hz)
    · rw [St.get_put_ne _ _ he] at hr
      simp only [upd_ne _ _ (Ne.symm he)] at hz
      exact hRef t z (h.refs r' v s' tvs' hr c t z ht hz)
  · intro r' hl
    by_cases he : r' = r
    · subst he; simpa [upd_same] using hnd
    · simp only [upd_ne _ _ he]
      rcases live_put.1 hl with h1 | h1
      · exact absurd h1 he
      · exact h.nd r' h1
  · intro r1 r2 hl1 hl2 hne b hb1 hb2
    by_cases he1 : r1 = r
    · subst he1
      have he2 : r2 ≠ r1 := Ne.symm hne
      simp only [upd_same] at hb1
      simp only [upd_ne _ _ he2] at hb2
      have hl2' : live σ r2 := (live_put.1 hl2).resolve_left he2
      rcases hfr b hb1 with ⟨h4, h5⟩ | h4
      · exact h.dis _ _ h4 hl2' hne b h5 hb2
      · exact (h.hdis b h4).1 r2 hl2' hb2
    · have hl1' : live σ r1 := (live_put.1 hl1).resolve_left he1
      simp only [upd_ne _ _ he1] at hb1
      by_cases he2 : r2 = r
      · subst he2
        simp only [upd_same] at hb2
        rcases hfr b hb2 with ⟨h4, h5⟩ | h4
        · exact h.dis _ _ hl1' h4 hne b hb1 h5
        · exact (h.hdis b h4).1 r1 hl1' hb1
      · simp only [upd_ne _ _ he2] at hb2
        exact h.dis r1 r2 hl1' ((live_put.1 hl2).resolve_left he2) hne b hb1 hb2
  · intro x g r' hx hl hg
    by_cases he : r' = r
    · subst he
      simp only [upd_same] at hg
      rcases hfr g hg with ⟨h4, h5⟩ | h4
      · exact h.bdis x g _ hx h4 h5
      · exact (h.hdis g h4).2 x hx
    · simp only [upd_ne _ _ he] at hg
      exact h.bdis x g r' hx ((live_put.1 hl).resolve_left he) hg
  · intro r' hl b hb
    by_cases he : r' = r
    · subst he
      simp only [upd_same] at hb
      rcases hfr b hb with ⟨h4, h5⟩ | h4
      · exact h.rng _ h4 b h5
      · exact (h.hrng b h4).1
    · simp only [upd_ne _ _ he] at hb
      exact h.rng r' ((live_put.1 hl).resolve_left he) b hb
  · intro b hb
    refine ⟨fun r' hl hb' => ?_, fun x hx => ?_⟩
    · by_cases he : r' = r
      · subst he
        simp only [upd_same] at hb'
        exact hdj b hb' hb
      · simp only [upd_ne _ _ he] at hb'
        have hl' := (live_put.1 hl).resolve_left he
        rcases hhr b hb with ⟨h4, h5⟩ | h4
        · exact h.dis _ _ hl' h4 he b hb' h5
        · exact (h.hdis b h4).1 r' hl' hb'
    · rcases hhr b hb with ⟨h4, h5⟩ | h4
      · exact h.bdis x b r hx h4 h5
      · exact (h.hdis b h4).2 x hx
  · intro b hb
    rcases hhr b hb with ⟨h4, h5⟩ | h4
    · obtain ⟨v, s', t', h6⟩ := h4
      exact ⟨h.rng r ⟨v, s', t', h6⟩ b h5, (h.rep r v s' t' h6).fp_lt b h5⟩
    · exact h.hrng b h4

theorem verOk_fst {v ver : Nat × Nat} {p : Path} (h : verOk v ver p = true) : ver.1 = v.1 := by
  cases p <;> simp [verOk] at h
  · exact h.symm
  · exact h.1.symm

theorem verOk_cons {v ver : Nat × Nat} {i : Nat × Nat} {p : Path} (h : verOk v ver (i :: p) = true) : ver.1 = v.1 ∧ ver.2 = v.2 := by
  simp [verOk] at h
  exact ⟨h.1.symm, h.2.symm⟩

/-- The header has turned: no view leads here any more. -/
theorem Loc.gone {r : Rs} {x : Nat × Nat} {y : Shape × List TV} {W' : Wit} {c : Nat} {ver : Nat × Nat} {p : Path} {z : Value}
    (hx : ∀ ver, VerB σ r ver → ver.1 < x.1) (h : Loc w σ W r c ver p z) : Loc w (σ.put r (x, some y)) W' r c ver p z := by
  have h1 := hx ver h.1
  refine ⟨?_, fun v s tvs hr hv => ?_⟩
  · unfold VerB
    rw [St.get_put_same]
    exact .inl h1
  · rw [St.get_put_same] at hr
    cases hr
    have := verOk_fst hv
    omega

/-- The content has turned, the headers stand. -/
theorem Loc.turned {r : Rs} {v x : Nat × Nat} {s s' : Shape} {tvs tvs' : List TV} {f hand' : List Nat} {c : Nat} {ver : Nat × Nat} {p : Path} {z : Value}
    (hr : σ.get r = (v, some (s, tvs))) (hx : x.1 = v.1) (hx2 : v.2 < x.2) (h : Loc w σ W r c ver p z) :
    Loc w (σ.put r (x, some (s', tvs'))) { W with cv := upd W.cv r (W.cv r), fp := upd W.fp r f, hand := hand' } r c ver p z := by
  obtain ⟨h1, h2⟩ := h
  unfold VerB at h1
  rw [hr] at h1
  simp only at h1
  refine ⟨?_, fun v' s2 t2 hr' hv => ?_⟩
  · unfold VerB
    rw [St.get_put_same]
    simp only
    omega
  · rw [St.get_put_same] at hr'
    cases hr'
    cases p with
    | nil =>
      have := verOk_fst hv
      obtain ⟨u, hu, h3⟩ := h2 v s tvs hr (by simp [verOk]; omega)
      rcases h3 with h3 | h3
      · exact ⟨u, by simpa [upd_same] using hu, .inl h3⟩
      · exact absurd rfl h3.1
    | cons i p =>
      have := verOk_cons hv
      omega


/-- A new box: its block was in hand, what it holds too. -/
theorem SR.newBox (h : SR C σ a w W) {d g : Nat} {x : Nat × Nat} {tvs : List TV} {vs : List Value} {f hand' : List Nat} {T : TypeId}
    (hdead : ¬ live σ (.bx d)) (hver : (σ.get (.bx d)).1.1 < x.1) (hg : w.heap[g]? = some (.cells vs.toArray T (0, 0))) (hgh : g ∈ W.hand) (hgn : C.w0.heap.size ≤ g)
    (hrep : Rep w W.β (Sh C σ W w) (tvs.map own) vs f)
    (hpart : ∀ b, b ∈ f ∨ b ∈ hand' → b ∈ W.hand ∧ b ≠ g) (hnd : f.Nodup) (hnh : hand'.Nodup) (hdj : ∀ b ∈ f, b ∉ hand')
    (hrefs : ∀ (c : Nat) (t : TV) (z : Value), tvs[c]? = some t → vs[c]? = some z → RefOk w σ W t z) :
    SR C (σ.put (.bx d) (x, some (.agg, tvs))) a w { β := fun y => if y = d then some g else W.β y, cv := upd W.cv (.bx d) vs, fp := upd W.fp (.bx d) f, hand := hand' } := by
  have hβd : W.β d = none := by
    cases hb : W.β d with
    | none => rfl
    | some g' => exact absurd (h.boxl d g' hb) hdead
  have hβ : ∀ y g', W.β y = some g' → (if y = d then some g else W.β y) = some g' := by
    intro y g' hy
    rw [if_neg]
    · exact hy
    · rintro rfl; rw [hβd] at hy; cases hy
  have hβ' : ∀ y g', (if y = d then some g else W.β y) = some g' → (y = d ∧ g' = g) ∨ (y ≠ d ∧ W.β y = some g') := by
    intro y g' hy
    split at hy
    · rename_i he; cases hy; exact .inl ⟨he, rfl⟩
    · rename_i he; exact .inr ⟨he, hy⟩
  have hSh : ∀ b, Sh C σ W w b → Sh C (σ.put (.bx d) (x, some (.agg, tvs))) { β := fun y => if y = d then some g else W.β y, cv := upd W.cv (.bx d) vs, fp := upd W.fp (.bx d) f, hand := hand' } w b := by
    rintro b ⟨h1, h2, h3⟩
    refine ⟨h1, h2, ?_⟩
    rintro (⟨r', hr', hb⟩ | ⟨y, hy⟩ | hb)
    · by_cases he : r' = .bx d
      · subst he
        simp only [upd_same] at hb
        exact h3 (.inr (.inr (hpart b (.inl hb)).1))
      · simp only [upd_ne _ _ he] at hb
        exact h3 (.inl ⟨r', (live_put.1 hr').resolve_left he, hb⟩)
    · rcases hβ' y b hy with ⟨rfl, rfl⟩ | ⟨_, hy'⟩
      · exact h3 (.inr (.inr hgh))
      · exact h3 (.inr (.inl ⟨y, hy'⟩))
    · exact h3 (.inr (.inr (hpart b (.inr hb)).1))
  have hLoc : ∀ r' c ver p y, Loc w σ W r' c ver p y → Loc w (σ.put (.bx d) (x, some (.agg, tvs))) { β := fun y => if y = d then some g else W.β y, cv := upd W.cv (.bx d) vs, fp := upd W.fp (.bx d) f, hand := hand' } r' c ver p y := by
    intro r' c ver p y hl
    by_cases he : r' = .bx d
    · subst he
      refine Loc.gone (fun ver' hv => ?_) hl
      unfold VerB at hv
      cases hgd : σ.get (.bx d) with
      | mk v o => cases o with
        | none => rw [hgd] at hv hver; simp only at hv hver; omega
        | some z => exact absurd ⟨v, z.1, z.2, hgd⟩ hdead
    · refine ⟨hl.1.put (Ne.symm he), fun v s' tvs' hr hv => ?_⟩
      rw [St.get_put_ne _ _ (Ne.symm he)] at hr
      simpa [upd_ne _ _ he] using hl.2 v s' tvs' hr hv
  have hRef : ∀ t z, RefOk w σ W t z → RefOk w (σ.put (.bx d) (x, some (.agg, tvs))) { β := fun y => if y = d then some g else W.β y, cv := upd W.cv (.bx d) vs, fp := upd W.fp (.bx d) f, hand := hand' } t z := by
    intro t z ht
    cases t with
    | val a => trivial
    | ref r' c ver p => exact ⟨ht.1, hLoc _ _ _ _ _ ht.2⟩
    | eref r' c ver p sz i k =>
      obtain ⟨g, n, cap, hx, hl⟩ := ht
      exact ⟨g, n, cap, hx, hLoc _ _ _ _ _ hl⟩
  have hgf : ∀ r', live σ r' → g ∉ W.fp r' := fun r' hl => (h.hdis g hgh).1 r' hl
  refine ⟨?_, ?_, ?_, ?_, ?_, ?_, ?_, ?_, ?_, ?_, ?_, ?_, hnh, ?_, fun b hb => h.hrng b (hpart b (.inr hb)).1, h.keep, h.dfr, fun g cs h1 => ⟨hSh g (h.gl g cs h1).1, (h.gl g cs h1).2⟩⟩
  · intro i v s' tvs' hr
    rw [St.get_put_ne _ _ (by simp)] at hr
    simpa [upd_ne] using h.slot i v s' tvs' hr
  · intro b v s' tvs' hr
    by_cases he : d = b
    · subst he
      exact ⟨g, T, by simp, by simpa [upd_same] using hg⟩
    · rw [St.get_put_ne _ _ (by simpa using he)] at hr
      obtain ⟨g', T', h1, h2⟩ := h.box b v s' tvs' hr
      refine ⟨g', T', hβ b g' h1, ?_⟩
      have : (Rs.bx b) ≠ .bx d := by simpa using Ne.symm he
      simpa [upd_ne _ _ this] using h2
  · intro b g' hb
    rcases hβ' b g' hb with ⟨rfl, _⟩ | ⟨_, hb'⟩
    · exact live_put.2 (.inl rfl)
    · exact live_put.2 (.inr (h.boxl b g' hb'))
  · intro i hl
    have := (live_put.1 hl).resolve_left (by simp)
    simpa [upd_ne] using h.ext i this
  · intro r' v s' tvs' hr
    by_cases he : Rs.bx d = r'
    · subst he
      rw [St.get_put_same] at hr
      cases hr
      simp only [upd_same]
      exact hrep.mono (fun b hb => ⟨hSh b hb, rfl⟩) (fun _ _ => rfl) hβ
    · rw [St.get_put_ne _ _ he] at hr
      simp only [upd_ne _ _ (Ne.symm he)]
      exact (h.rep r' v s' tvs' hr).mono (fun b hb => ⟨hSh b hb, rfl⟩) (fun _ _ => rfl) hβ
  · intro r' v s' tvs' hr c t z ht hz
    by_cases he : Rs.bx d = r'
    · subst he
      rw [St.get_put_same] at hr
      cases hr
      simp only [upd_same] at hz
      exact hRef t z (hrefs c t z ht hz)
    · rw [St.get_put_ne _ _ he] at hr
      simp only [upd_ne _ _ (Ne.symm he)] at hz
      exact hRef t z (h.refs r' v s' tvs' hr c t z ht hz)
  · intro r' hl
    by_cases he : r' = .bx d
    · subst he; simpa [upd_same] using hnd
    · simp only [upd_ne _ _ he]
      exact h.nd r' ((live_put.1 hl).resolve_left he)
  · intro r1 r2 hl1 hl2 hne b hb1 hb2
    by_cases he1 : r1 = .bx d
    · subst he1
      have he2 := Ne.symm hne
      simp only [upd_same] at hb1
      simp only [upd_ne _ _ he2] at hb2
      exact (h.hdis b (hpart b (.inl hb1)).1).1 r2 ((live_put.1 hl2).resolve_left he2) hb2
    · have hl1' := (live_put.1 hl1).resolve_left he1
      simp only [upd_ne _ _ he1] at hb1
      by_cases he2 : r2 = .bx d
      · subst he2
        simp only [upd_same] at hb2
        exact (h.hdis b (hpart b (.inl hb2)).1).1 r1 hl1' hb1
      · simp only [upd_ne _ _ he2] at hb2
        exact h.dis r1 r2 hl1' ((live_put.1 hl2).resolve_left he2) hne b hb1 hb2
  · intro y z g' hy hz
    rcases hβ' y g' hy with ⟨rfl, rfl⟩ | ⟨hy1, hy2⟩
    · rcases hβ' z _ hz with ⟨rfl, _⟩ | ⟨hz1, hz2⟩
      · rfl
      · exact absurd hz2 ((h.hdis _ hgh).2 z)
    · rcases hβ' z _ hz with ⟨rfl, rfl⟩ | ⟨hz1, hz2⟩
      · exact absurd hy2 ((h.hdis _ hgh).2 y)
      · exact h.binj y z g' hy2 hz2
  · intro y g' r' hy hl hg'
    rcases hβ' y g' hy with ⟨rfl, rfl⟩ | ⟨hy1, hy2⟩
    · by_cases he : r' = .bx y
      · subst he
        simp only [upd_same] at hg'
        exact (hpart _ (.inl hg')).2 rfl
      · simp only [upd_ne _ _ he] at hg'
        exact hgf r' ((live_put.1 hl).resolve_left he) hg'
    · by_cases he : r' = .bx d
      · subst he
        simp only [upd_same] at hg'
        exact (h.hdis g' (hpart _ (.inl hg')).1).2 y hy2
      · simp only [upd_ne _ _ he] at hg'
        exact h.bdis y g' r' hy2 ((live_put.1 hl).resolve_left he) hg'
  · intro y g' hy
    rcases hβ' y g' hy with ⟨rfl, rfl⟩ | ⟨hy1, hy2⟩
    · exact hgn
    · exact h.brng y g' hy2
  · intro r' hl b hb
    by_cases he : r' = .bx d
    · subst he
      simp only [upd_same] at hb
      exact (h.hrng b (hpart b (.inl hb)).1).1
    · simp only [upd_ne _ _ he] at hb
      exact h.rng r' ((live_put.1 hl).resolve_left he) b hb
  · intro b hb
    refine ⟨fun r' hl hb' => ?_, fun y hy => ?_⟩
    · by_cases he : r' = .bx d
      · subst he
        simp only [upd_same] at hb'
        exact hdj b hb' hb
      · simp only [upd_ne _ _ he] at hb'
        exact (h.hdis b (hpart b (.inr hb)).1).1 r' ((live_put.1 hl).resolve_left he) hb'
    · rcases hβ' y b hy with ⟨rfl, rfl⟩ | ⟨_, hy'⟩
      · exact (hpart _ (.inr hb)).2 rfl
      · exact (h.hdis b (hpart b (.inr hb)).1).2 y hy'

/-- A store into a box: the world turns at its block, the content is laid anew. -/
theorem SR.storeBox (h : SR C σ a w W) {d : Nat} {v x : Nat × Nat} {s : Shape} {tvs0 tvs : List TV} {vs : List Value} {f hand' : List Nat} {w' : World}
    (hr : σ.get (.bx d) = (v, some (s, tvs0))) (hx : v.1 < x.1)
    (hw : ∀ g T, W.β d = some g → w.heap[g]? = some (.cells (W.cv (.bx d)).toArray T (0, 0)) → w' = w.setRow g vs.toArray)
    (hrep : Rep w W.β (Sh C σ W w) (tvs.map own) vs f)
    (hpart : ∀ b, b ∈ f ∨ b ∈ hand' → b ∈ W.fp (.bx d) ∨ b ∈ W.hand) (hnd : f.Nodup) (hnh : hand'.Nodup) (hdj : ∀ b ∈ f, b ∉ hand')
    (hrefs : ∀ (c : Nat) (t : TV) (z : Value), tvs[c]? = some t → vs[c]? = some z → RefOk w σ W t z) :
    SR C (σ.put (.bx d) (x, some (s, tvs))) a w' { W with cv := upd W.cv (.bx d) vs, fp := upd W.fp (.bx d) f, hand := hand' } := by
  obtain ⟨g, T, hb, hg⟩ := h.box d v s tvs0 hr
  obtain rfl := hw g T hb hg
  have hld : live σ (.bx d) := ⟨v, s, tvs0, hr⟩
  have hgl : g < w.heap.size := (Array.getElem?_eq_some_iff.1 hg).1
  have hoth : ∀ k, k ≠ g → (w.setRow g vs.toArray).heap[k]? = w.heap[k]? := fun k hk => setRow_other w g k _ hk
  have hgsh : ¬ Sh C σ W w g := fun hs => hs.2.2 (.inr (.inl ⟨d, hb⟩))
  have hfpg : ∀ r', live σ r' → ∀ b ∈ W.fp r', b ≠ g := fun r' hl b hb' he => h.bdis d g r' hb hl (he ▸ hb')
  have hhg : ∀ b ∈ W.hand, b ≠ g := fun b hb' he => (h.hdis b hb').2 d (he ▸ hb)
  have hng : ∀ b, b ∈ f ∨ b ∈ hand' → b ≠ g := fun b hb' => by
    rcases hpart b hb' with h1 | h1
    · exact hfpg _ hld b h1
    · exact hhg b h1
  have hSh : ∀ b, Sh C σ W w b → Sh C (σ.put (.bx d) (x, some (s, tvs))) { W with cv := upd W.cv (.bx d) vs, fp := upd W.fp (.bx d) f, hand := hand' } (w.setRow g vs.toArray) b ∧ (w.setRow g vs.toArray).heap[b]? = w.heap[b]? := by
    intro b hs
    refine ⟨⟨hs.1, by simpa using hs.2.1, ?_⟩, hoth b fun he => hgsh (he ▸ hs)⟩
    rintro (⟨r', hr', hb'⟩ | hy | hb')
    · by_cases he : r' = .bx d
      · subst he
        simp only [upd_same] at hb'
        rcases hpart b (.inl hb') with h1 | h1
        · exact hs.2.2 (.inl ⟨_, hld, h1⟩)
        · exact hs.2.2 (.inr (.inr h1))
      · simp only [upd_ne _ _ he] at hb'
        exact hs.2.2 (.inl ⟨r', (live_put.1 hr').resolve_left he, hb'⟩)
    · exact hs.2.2 (.inr (.inl hy))
    · rcases hpart b (.inr hb') with h1 | h1
      · exact hs.2.2 (.inl ⟨_, hld, h1⟩)
      · exact hs.2.2 (.inr (.inr h1))
  have hLoc : ∀ r' c ver p y, Loc w σ W r' c ver p y → Loc (w.setRow g vs.toArray) (σ.put (.bx d) (x, some (s, tvs))) { W with cv := upd W.cv (.bx d) vs, fp := upd W.fp (.bx d) f, hand := hand' } r' c ver p y := by
    intro r' c ver p y hl
    by_cases he : r' = .bx d
    · subst he
      have h1 : VerB σ (.bx d) ver := hl.1
      unfold VerB at h1
      rw [hr] at h1
      simp only at h1
      have h2 : ver.1 < x.1 := by omega
      refine ⟨by unfold VerB; rw [St.get_put_same]; exact .inl h2, fun v' s' tvs' hr' hv => ?_⟩
      rw [St.get_put_same] at hr'
      cases hr'
      have := verOk_fst hv
      omega
    · refine ⟨hl.1.put (Ne.symm he), fun v' s' tvs' hr' hv => ?_⟩
      rw [St.get_put_ne _ _ (Ne.symm he)] at hr'
      obtain ⟨u, hu, h3⟩ := hl.2 v' s' tvs' hr' hv
      refine ⟨u, by simpa [upd_ne _ _ he] using hu, h3.imp id ?_⟩
      rintro ⟨hp, b, b', hb', hnv⟩
      refine ⟨hp, b, b', hb', ?_⟩
      have hat : (tvs'.map own)[c]? = some b := by simp [hb', own]
      obtain ⟨u', f1, fc, f2, hu', hf, hone, _⟩ := (h.rep r' v' s' tvs' hr').at hat
      rw [hu] at hu'; cases hu'
      exact NavAt.kept p hnv hone fun g' hg' => hoth g' (hfpg r' ⟨v', s', tvs', hr'⟩ g' (by rw [hf]; simp [hg']))
  have hRef : ∀ t z, RefOk w σ W t z → RefOk (w.setRow g vs.toArray) (σ.put (.bx d) (x, some (s, tvs))) { W with cv := upd W.cv (.bx d) vs, fp := upd W.fp (.bx d) f, hand := hand' } t z := by
    intro t z ht
    cases t with
    | val a => trivial
    | ref r' c ver p => exact ⟨ht.1, hLoc _ _ _ _ _ ht.2⟩
    | eref r' c ver p sz i k =>
      obtain ⟨g, n, cap, hx, hl⟩ := ht
      exact ⟨g, n, cap, hx, hLoc _ _ _ _ _ hl⟩
  refine ⟨?_, ?_, ?_, ?_, ?_, ?_, ?_, ?_, h.binj, ?_, h.brng, ?_, hnh, ?_, ?_, ?_, h.dfr, fun q cs h1 => by
    obtain ⟨h2, t, fz, h3⟩ := h.gl q cs h1
    exact ⟨(hSh q h2).1, t, fz, by rw [(hSh q h2).2]; exact h3⟩⟩
  · intro i v s' tvs' hr'
    rw [St.get_put_ne _ _ (by simp)] at hr'
    simpa [upd_ne] using h.slot i v s' tvs' hr'
  · intro b v' s' tvs' hr'
    by_cases he : d = b
    · subst he
      exact ⟨g, T, hb, by simpa [upd_same] using setRow_heap w g _ vs.toArray T (0, 0) hg⟩
    · rw [St.get_put_ne _ _ (by simpa using he)] at hr'
      obtain ⟨g', T', h1, h2⟩ := h.box b v' s' tvs' hr'
      refine ⟨g', T', h1, ?_⟩
      have : (Rs.bx b) ≠ .bx d := by simpa using Ne.symm he
      rw [hoth g' fun hh => he (h.binj d b g hb (hh ▸ h1))]
      simpa [upd_ne _ _ this] using h2
  · intro b g' hb'
    exact live_put.2 (.inr (h.boxl b g' hb'))
  · intro i hl
    have := (live_put.1 hl).resolve_left (by simp)
    simpa [upd_ne] using h.ext i this
  · intro r' v' s' tvs' hr'
    by_cases he : Rs.bx d = r'
    · subst he
      rw [St.get_put_same] at hr'
      cases hr'
      simp only [upd_same]
      exact hrep.mono hSh (fun b hb' => hoth b (hng b (.inl hb'))) fun _ _ h => h
    · rw [St.get_put_ne _ _ he] at hr'
      simp only [upd_ne _ _ (Ne.symm he)]
      exact (h.rep r' v' s' tvs' hr').mono hSh (fun b hb' => hoth b (hfpg r' ⟨v', s', tvs', hr'⟩ b hb')) fun _ _ h => h
  · intro r' v' s' tvs' hr' c t z ht hz
    by_cases he : Rs.bx d = r'
    · subst he
      rw [St.get_put_same] at hr'
      cases hr'
      simp only [upd_same] at hz
      exact hRef t z (hrefs c t z ht hz)
    · rw [St.get_put_ne _ _ he] at hr'
      simp only [upd_ne _ _ (Ne.symm he)] at hz
      exact hRef t z (h.refs r' v' s' tvs' hr' c t z ht hz)
  · intro r' hl
    by_cases he : r' = .bx d
    · subst he; simpa [upd_same] using hnd
    · simp only [upd_ne _ _ he]
      exact h.nd r' ((live_put.1 hl).resolve_left he)
  · intro r1 r2 hl1 hl2 hne b hb1 hb2
    by_cases he1 : r1 = .bx d
    · subst he1
      have he2 := Ne.symm hne
      simp only [upd_same] at hb1
      simp only [upd_ne _ _ he2] at hb2
      have hl2' := (live_put.1 hl2).resolve_left he2
      rcases hpart b (.inl hb1) with h4 | h4
      · exact h.dis _ _ hld hl2' hne b h4 hb2
      · exact (h.hdis b h4).1 r2 hl2' hb2
    · have hl1' := (live_put.1 hl1).resolve_left he1
      simp only [upd_ne _ _ he1] at hb1
      by_cases he2 : r2 = .bx d
      · subst he2
        simp only [upd_same] at hb2
        rcases hpart b (.inl hb2) with h4 | h4
        · exact h.dis _ _ hl1' hld hne b hb1 h4
        · exact (h.hdis b h4).1 r1 hl1' hb1
      · simp only [upd_ne _ _ he2] at hb2
        exact h.dis r1 r2 hl1' ((live_put.1 hl2).resolve_left he2) hne b hb1 hb2
  · intro y g' r' hy hl hg'
    by_cases he : r' = .bx d
    · subst he
      simp only [upd_same] at hg'
      rcases hpart g' (.inl hg') with h4 | h4
      · exact h.bdis y g' _ hy hld h4
      · exact (h.hdis g' h4).2 y hy
    · simp only [upd_ne _ _ he] at hg'
      exact h.bdis y g' r' hy ((live_put.1 hl).resolve_left he) hg'
  · intro r' hl b hb'
    by_cases he : r' = .bx d
    · subst he
      simp only [upd_same] at hb'
      rcases hpart b (.inl hb') with h4 | h4
      · exact h.rng _ hld b h4
      · exact (h.hrng b h4).1
    · simp only [upd_ne _ _ he] at hb'
      exact h.rng r' ((live_put.1 hl).resolve_left he) b hb'
  · intro b hb'
    refine ⟨fun r' hl hb2 => ?_, fun y hy => ?_⟩
    · by_cases he : r' = .bx d
      · subst he
        simp only [upd_same] at hb2
        exact hdj b hb2 hb'
      · simp only [upd_ne _ _ he] at hb2
        have hl' := (live_put.1 hl).resolve_left he
        rcases hpart b (.inr hb') with h4 | h4
        · exact h.dis _ _ hl' hld he b hb2 h4
        · exact (h.hdis b h4).1 r' hl' hb2
    · rcases hpart b (.inr hb') with h4 | h4
      · exact h.bdis y b _ hy hld h4
      · exact (h.hdis b h4).2 y hy
  · intro b hb'
    rw [setRow_size]
    rcases hpart b (.inr hb') with h4 | h4
    · exact ⟨h.rng _ hld b h4, (h.rep _ v s tvs0 hr).fp_lt b h4⟩
    · exact h.hrng b h4
  · refine ⟨h.keep.os, h.keep.tape, h.keep.output, by rw [setRow_size]; exact h.keep.size, fun b hb' hbf => ?_⟩
    rw [hoth b fun he => ?_]
    · exact h.keep.block b hb' hbf
    · have := h.brng d g hb
      omega

end Go.Vs

namespace Go.Vs

variable {C : Ctx} {σ : St} {a : Act} {w : World} {W : Wit} {P : Program} {cr : CallR}

def TV1 (C : Ctx) (σ : St) (W : Wit) (w : World) : TV → Value → Prop
  | .val av, z => Rep w W.β (Sh C σ W w) [av] [z] []
  | t, z => RefOk w σ W t z

def View (C : Ctx) (σ : St) (W : Wit) (w : World) : List TV → List Value → Prop
  | [], [] => True
  | t :: ts, z :: zs => TV1 C σ W w t z ∧ View C σ W w ts zs
  | _, _ => False

theorem View.length {tvs : List TV} {vs : List Value} (h : View C σ W w tvs vs) : tvs.length = vs.length := by
  induction tvs generalizing vs with
  | nil => cases vs with
    | nil => rfl
    | cons _ _ => exact h.elim
  | cons t l ih => cases vs with
    | nil => exact h.elim
    | cons z zs => simp [ih h.2]

theorem View.get {tvs : List TV} {vs : List Value} (h : View C σ W w tvs vs) {c : Nat} {t : TV} (ht : tvs[c]? = some t) : ∃ z, vs[c]? = some z ∧ TV1 C σ W w t z := by
  induction tvs generalizing vs c with
  | nil => simp at ht
  | cons t0 l ih => cases vs with
    | nil => exact h.elim
    | cons z zs =>
      cases c with
      | zero => simp at ht; subst ht; exact ⟨z, rfl, h.1⟩
      | succ c => simp at ht; simpa using ih h.2 ht

theorem View.of_get {tvs : List TV} {vs : List Value} (hl : tvs.length = vs.length) (h : ∀ (c : Nat) (t : TV) (z : Value), tvs[c]? = some t → vs[c]? = some z → TV1 C σ W w t z) : View C σ W w tvs vs := by
  induction tvs generalizing vs with
  | nil => cases vs with
    | nil => trivial
    | cons _ _ => simp at hl
  | cons t l ih => cases vs with
    | nil => simp at hl
    | cons z zs => exact ⟨h 0 t z rfl rfl, ih (by simpa using hl) fun c t z ht hz => h (c + 1) t z (by simpa using ht) (by simpa using hz)⟩

theorem View.drop {tvs : List TV} {vs : List Value} (h : View C σ W w tvs vs) (n : Nat) : View C σ W w (tvs.drop n) (vs.drop n) := by
  refine .of_get (by simp [h.length]) fun c t z ht hz => ?_
  rw [List.getElem?_drop] at ht hz
  obtain ⟨z', hz', h1⟩ := h.get ht
  rw [hz] at hz'; cases hz'; exact h1

theorem View.take {tvs : List TV} {vs : List Value} (h : View C σ W w tvs vs) (n : Nat) : View C σ W w (tvs.take n) (vs.take n) := by
  refine .of_get (by simp [h.length]) fun c t z ht hz => ?_
  rw [List.getElem?_take] at ht hz
  split at ht
  · rename_i hc
    rw [if_pos hc] at hz
    obtain ⟨z', hz', h1⟩ := h.get ht
    rw [hz] at hz'; cases hz'; exact h1
  · cases ht

theorem viewTV_length (r : Rs) (ver : Nat × Nat) (l : List TV) (c0 : Nat) : (viewTV r ver c0 l).length = l.length := by
  induction l generalizing c0 with
  | nil => rfl
  | cons t l ih => simp [viewTV, ih]

theorem viewTV_get (r : Rs) (ver : Nat × Nat) (l : List TV) (c0 c : Nat) : (viewTV r ver c0 l)[c]? = l[c]?.map (viewOf r ver (c0 + c)) := by
  induction l generalizing c0 c with
  | nil => simp [viewTV]
  | cons t l ih =>
    cases c with
    | zero => simp [viewTV]
    | succ c =>
      have e : c0 + 1 + c = c0 + (c + 1) := by omega
      simp [viewTV, ih, e]

/-- The view of a live resource. -/
theorem view_ok (h : SR C σ a w W) {r : Rs} {v : Nat × Nat} {s : Shape} {tvs : List TV} (hr : σ.get r = (v, some (s, tvs))) :
    View C σ W w (viewTV r v 0 tvs) (W.cv r) := by
  have hrep := h.rep r v s tvs hr
  have hl := hrep.length
  refine .of_get (by rw [viewTV_length]; simpa using hl) fun c t z ht hz => ?_
  rw [viewTV_get, Option.map_eq_some_iff] at ht
  obtain ⟨t0, ht0, rfl⟩ := ht
  cases t0 with
  | val av =>
    have hat : (tvs.map own)[c]? = some av := by simp [ht0, own]
    obtain ⟨u, f1, fc, f2, hu, hf, hone, _⟩ := hrep.at hat
    rw [hz] at hu; cases hu
    simp only [viewOf]
    cases ho : av.owns with
    | true =>
      simp only [Nat.zero_add]
      refine ⟨hone.oneCell, ?_, fun v' s' tvs' hr' _ => ⟨z, by simpa using hz, .inl ⟨rfl, rfl⟩⟩⟩
      unfold VerB
      rw [hr]
      exact .inr ⟨rfl, Nat.le_refl _⟩
    | false =>
      have := hone.fp_nil ho
      subst this
      exact hone
  | ref r' c' ver p => exact h.refs r v s tvs hr c _ z ht0 hz
  | eref r' c' ver p sz i k => exact h.refs r v s tvs hr c _ z ht0 hz

theorem constTV_ok {x : Value} {t : TV} (h : constTV x = some t) : TV1 C σ W w t x := by
  unfold constTV at h
  split at h <;> cases h
  · exact .nils (by simp) .nil
  all_goals exact .v rfl .nil

theorem rdOp_ok (h : SR C σ a w W) {x : Operand} {s : Shape} {tvs : List TV} {σ' : St} {l : Log} (hr : (rdOp x).run P cr σ = some ((s, tvs), σ', l)) :
    σ' = σ ∧ ∃ vs, a.eval x = shVal s vs ∧ View C σ W w tvs vs ∧ shapeOk s tvs.length := by
  cases x with
  | tmp t =>
    simp only [rdOp, Pr.run, Option.map_eq_some_iff] at hr
    obtain ⟨⟨y, τ, l'⟩, h1, h2⟩ := hr
    cases hg : σ.get (.sl t) with
    | mk ver o => cases o with
      | none => rw [hg] at h1; simp [Pr.run] at h1
      | some z =>
        obtain ⟨s0, t0⟩ := z
        rw [hg] at h1
        simp only [Pr.run, Option.some.injEq, Prod.mk.injEq] at h1
        obtain ⟨rfl, rfl, rfl⟩ := h1
        cases h2
        obtain ⟨h3, h4⟩ := h.slot t ver _ t0 hg
        refine ⟨rfl, W.cv (.sl t), ?_, view_ok h hg, by rw [viewTV_length]; exact h4⟩
        simp [Act.eval, h3]
  | const x =>
    simp only [rdOp] at hr
    split at hr
    · rename_i t ht
      simp only [Pr.run, Option.some.injEq, Prod.mk.injEq] at hr
      obtain ⟨⟨rfl, rfl⟩, rfl, rfl⟩ := hr
      exact ⟨rfl, [x], rfl, ⟨constTV_ok ht, trivial⟩, rfl⟩
    · simp [Pr.run] at hr
  | global g => simp [rdOp, Pr.run] at hr
  | func f =>
    simp only [rdOp, Pr.run, Option.some.injEq, Prod.mk.injEq] at hr
    obtain ⟨⟨rfl, rfl⟩, rfl, rfl⟩ := hr
    exact ⟨rfl, [.func (.func f) #[] #[]], rfl, ⟨.clo .nil .nil, trivial⟩, rfl⟩

theorem rdOne_ok (h : SR C σ a w W) {x : Operand} {t : TV} {σ' : St} {l : Log} (hr : (rdOne x).run P cr σ = some (t, σ', l)) :
    σ' = σ ∧ TV1 C σ W w t (a.eval x) := by
  obtain ⟨⟨s, tvs⟩, σ1, l1, l2, h1, h2, rfl⟩ := run_bind_some hr
  obtain ⟨rfl, vs, h3, h4, _⟩ := rdOp_ok h h1
  simp only [one] at h2
  split at h2
  · simp only [Pr.run, Option.some.injEq, Prod.mk.injEq] at h2
    obtain ⟨rfl, rfl, rfl⟩ := h2
    refine ⟨rfl, ?_⟩
    match vs, h4 with
    | [z], h4 => rw [h3]; exact h4.1
  · simp [Pr.run] at h2

theorem rdV_ok (h : SR C σ a w W) {x : Operand} {y : Value} {σ' : St} {l : Log} (hr : (rdV x).run P cr σ = some (y, σ', l)) :
    σ' = σ ∧ a.eval x = y ∧ scalar y = true := by
  obtain ⟨t, σ1, l1, l2, h1, h2, rfl⟩ := run_bind_some hr
  obtain ⟨rfl, h3⟩ := rdOne_ok h h1
  split at h2
  · simp only [Pr.run, Option.some.injEq, Prod.mk.injEq] at h2
    obtain ⟨rfl, rfl, rfl⟩ := h2
    generalize a.eval x = z at *
    cases h3 with
    | v hs t => exact ⟨rfl, rfl, hs⟩
  · simp [Pr.run] at h2

theorem rdInt_ok (h : SR C σ a w W) {x : Operand} {k : IntKind} {n : Int} {σ' : St} {l : Log} (hr : (rdInt x).run P cr σ = some ((k, n), σ', l)) :
    σ' = σ ∧ a.eval x = .int k n := by
  obtain ⟨t, σ1, l1, l2, h1, h2, rfl⟩ := run_bind_some hr
  obtain ⟨rfl, h3, _⟩ := rdV_ok h h1
  split at h2
  · simp only [Pr.run, Option.some.injEq, Prod.mk.injEq] at h2
    obtain ⟨⟨rfl, rfl⟩, rfl, rfl⟩ := h2
    exact ⟨rfl, h3⟩
  · simp [Pr.run] at h2

/-! ### Content -/

/-- A run that writes nothing. -/
def Quiet {α : Type} (p : Pr α) : Prop := ∀ (P : Program) (cr : CallR) (σ : St) (x : α) (τ : St) (l : Log), p.run P cr σ = some (x, τ, l) → τ = σ

theorem chk_run {α : Type} {b : Bool} {k : Pr α} {x : α} {τ : St} {l : Log} (h : (chk b k).run P cr σ = some (x, τ, l)) : b = true ∧ k.run P cr σ = some (x, τ, l) := by
  cases b with
  | true => exact ⟨rfl, h⟩
  | false => simp [chk, Pr.run] at h

theorem elt_run {α : Type} {o : Option (List AV)} {k : List AV → Pr α} {x : α} {τ : St} {l : Log} (h : (Pr.elt o k).run P cr σ = some (x, τ, l)) : ∃ m, o = some m ∧ (k m).run P cr σ = some (x, τ, l) := by
  cases o with
  | none => simp [Pr.run] at h
  | some m => exact ⟨m, rfl, by simpa [Pr.run] using h⟩

theorem ret_run {α : Type} {y x : α} {τ : St} {l : Log} (h : (Pr.ret y).run P cr σ = some (x, τ, l)) : x = y ∧ τ = σ ∧ l = [] := by
  simp only [Pr.run, Option.some.injEq, Prod.mk.injEq] at h
  exact ⟨h.1.symm, h.2.1.symm, h.2.2.symm⟩

theorem get_run {α : Type} {r : Rs} {k : RV → Pr α} {x : α} {τ : St} {l : Log} (h : (Pr.get r k).run P cr σ = some (x, τ, l)) : ∃ l', (k (σ.get r)).run P cr σ = some (x, τ, l') ∧ l = l' ++ [(false, r)] := by
  simp only [Pr.run, Option.map_eq_some_iff] at h
  obtain ⟨⟨y, τ', l'⟩, h1, h2⟩ := h
  cases h2
  exact ⟨l', h1, rfl⟩

theorem put_run {α : Type} {r : Rs} {y : RV} {k : Pr α} {x : α} {τ : St} {l : Log} (h : (Pr.put r y k).run P cr σ = some (x, τ, l)) : ∃ l', k.run P cr (σ.put r y) = some (x, τ, l') ∧ l = l' ++ [(true, r)] := by
  simp only [Pr.run, Option.map_eq_some_iff] at h
  obtain ⟨⟨y, τ', l'⟩, h1, h2⟩ := h
  cases h2
  exact ⟨l', h1, rfl⟩

theorem req_run {α : Type} {p : Prop} {k : Pr α} {x : α} {τ : St} {l : Log} (h : (Pr.req p k).run P cr σ = some (x, τ, l)) : p ∧ k.run P cr σ = some (x, τ, l) := by
  simp only [Pr.run] at h
  split at h
  · rename_i hp; exact ⟨hp, h⟩
  · cases h

theorem nm_run {α : Type} {n : Int} {k : Int → Pr α} {x : α} {τ : St} {l : Log} (h : (Pr.nm n k).run P cr σ = some (x, τ, l)) : (k n).run P cr σ = some (x, τ, l) := by
  simpa [Pr.run] using h

theorem fail_run {α : Type} {x : α} {τ : St} {l : Log} (h : (Pr.fail : Pr α).run P cr σ = some (x, τ, l)) : False := by
  simp [Pr.run] at h

/-- Down a path: what stands there, on both sides. -/
theorem nav_ok {S : Nat → Prop} : ∀ (p : Path) {β : Nat → Option Nat} {b b' : AV} {u x : Value} {fc : List Nat} {σ' : St} {l : Log},
    (nav b p).run P cr σ = some (b', σ', l) → Rep w β S [b] [u] fc → (∀ y, NavAt w b u p y x → True) →
    σ' = σ ∧ ∀ {a0 : AV}, NavAt w b u p a0 x → a0 = b' ∧ ∃ β' f, (p ≠ [] → β' = fun _ => none) ∧ (p = [] → β' = β) ∧ (∀ g ∈ f, g ∈ fc) ∧ Rep w β' S [b'] [x] f
  | [], β, b, b', u, x, fc, σ', l, hr, hrep, _ => by
    obtain ⟨rfl, rfl, rfl⟩ := ret_run (show (Pr.ret b).run P cr σ = _ by simpa [nav] using hr)
    exact ⟨rfl, fun ⟨h1, h2⟩ => ⟨h1.symm, β, fc, by simp, by simp, fun _ h => h, by rw [← h2]; exact hrep⟩⟩
  | (i, k) :: p, β, b, b', u, x, fc, σ', l, hr, hrep, _ => by
    cases b with
    | sl o n s els =>
      cases o with
      | false => simp [nav, Pr.run] at hr
      | true =>
        simp only [nav] at hr
        obtain ⟨el, hel, h1⟩ := elt_run hr
        cases hk : el[k]? with
        | none => rw [hk] at h1; exact (fail_run h1).elim
        | some a1 =>
          rw [hk] at h1
          simp only at h1
          have hst : σ' = σ := by
            cases hrep with
            | nils hnf t => simp at hel
            | owd hnf hg hn hsz hpos hcap hmax hcur hin t =>
              have hkl : k < s := by rw [← hsz el (List.mem_of_getElem? hel)]; exact (List.getElem?_eq_some_iff.1 hk).1
              obtain ⟨y', g1, gc, g2, hy', hgf, hone', _⟩ := hin.at (flat_get hkl hk els i hsz hel)
              exact (nav_ok (x := y') p h1 hone' (fun _ _ => trivial)).1
          refine ⟨hst, fun {a0} hn => ?_⟩
          obtain ⟨nf, sz, els', g, n', cap, cur, e, el', a1', y1, he, rfl, hg, hi, hk', hy, hrest⟩ := hn
          cases he
          rw [hel] at hi; cases hi
          rw [hk] at hk'; cases hk'
          obtain ⟨f, hf, hone, _⟩ := hrep.step hg hel hk hy
          obtain ⟨_, h2⟩ := nav_ok (x := x) p h1 hone (fun _ _ => trivial)
          obtain ⟨h3, β', f', hb1, hb2, hf', hrep'⟩ := h2 hrest
          refine ⟨h3, fun _ => none, f', by simp, by simp, fun g hg => hf g (hf' g hg), ?_⟩
          by_cases hp : p = []
          · rw [hb2 hp] at hrep'; exact hrep'
          · rw [hb1 hp] at hrep'; exact hrep'
    | _ => simp [nav, Pr.run] at hr

theorem content_run {r : Rs} {c : Nat} {ver : Nat × Nat} {p : Path} {b : AV} {σ' : St} {l : Log} (h : (content r c ver p).run P cr σ = some (b, σ', l)) :
    ∃ v s tvs a0 l', σ.get r = (v, some (s, tvs)) ∧ verOk v ver p = true ∧ tvs[c]? = some (.val a0) ∧ (nav a0 p).run P cr σ = some (b, σ', l') := by
  obtain ⟨l', h1, rfl⟩ := get_run h
  cases hg : σ.get r with
  | mk v o => cases o with
    | none => rw [hg] at h1; exact (fail_run h1).elim
    | some z =>
      obtain ⟨s, tvs⟩ := z
      rw [hg] at h1
      simp only at h1
      cases hv : verOk v ver p with
      | false => rw [hv] at h1; exact (fail_run h1).elim
      | true =>
        rw [hv] at h1
        simp only at h1
        split at h1
        · rename_i a0 ha
          exact ⟨v, s, tvs, a0, l', rfl, hv, ha, h1⟩
        · exact (fail_run h1).elim

/-- What a view leads to, as it stands. -/
theorem content_ok (h : SR C σ a w W) {r : Rs} {c : Nat} {ver : Nat × Nat} {p : Path} {b : AV} {σ' : St} {l : Log} {y : Value}
    (hr : (content r c ver p).run P cr σ = some (b, σ', l)) (hl : Loc w σ W r c ver p y) :
    σ' = σ ∧ ∃ β' f, (p ≠ [] → β' = fun _ => none) ∧ (p = [] → β' = W.β) ∧ (∀ g ∈ f, g ∈ W.fp r) ∧ live σ r ∧ Rep w β' (Sh C σ W w) [b] [y] f := by
  obtain ⟨v, s, tvs, a0, l', hg, hv, ha, hn⟩ := content_run hr
  obtain ⟨u, hu, hcase⟩ := hl.2 v s tvs hg hv
  have hat : (tvs.map own)[c]? = some a0 := by simp [ha, own]
  obtain ⟨u', f1, fc, f2, hu', hf, hone, _⟩ := (h.rep r v s tvs hg).at hat
  rw [hu] at hu'; cases hu'
  have hsub : ∀ g ∈ fc, g ∈ W.fp r := fun g hg' => by rw [hf]; simp [hg']
  rcases hcase with ⟨rfl, rfl⟩ | ⟨hp, a1, a', ha1, hnv⟩
  · obtain ⟨rfl, rfl, _⟩ := ret_run (show (Pr.ret a0).run P cr σ = _ by simpa [nav] using hn)
    exact ⟨rfl, W.β, fc, by simp, by simp, hsub, ⟨v, s, tvs, hg⟩, hone⟩
  · rw [ha] at ha1
    cases ha1
    obtain ⟨h1, h2⟩ := nav_ok (x := y) p hn hone (fun _ _ => trivial)
    obtain ⟨_, β', f, hb1, hb2, hf', hrep⟩ := h2 hnv
    exact ⟨h1, β', f, hb1, hb2, fun g hg' => hsub g (hf' g hg'), ⟨v, s, tvs, hg⟩, hrep⟩

/-- All that this call may read. -/
def ShA (C : Ctx) (w : World) (b : Nat) : Prop := (C.S0 b ∨ C.w0.heap.size ≤ b ∨ b ∈ C.fpIn) ∧ b < w.heap.size

theorem Sh.toA {b : Nat} (h : Sh C σ W w b) : ShA C w b := ⟨h.1, h.2.1⟩

theorem SR.fpA (h : SR C σ a w W) {r : Rs} (hl : live σ r) {b : Nat} (hb : b ∈ W.fp r) : ShA C w b := by
  obtain ⟨v, s, tvs, hr⟩ := hl
  refine ⟨?_, (h.rep r v s tvs hr).fp_lt b hb⟩
  rcases h.rng r ⟨v, s, tvs, hr⟩ b hb with h1 | h1
  · exact .inr (.inl h1)
  · exact .inr (.inr h1)

theorem Rep.noβ {S : Nat → Prop} {β : Nat → Option Nat} {b : AV} {x : Value} {f : List Nat} (h : Rep w β S [b] [x] f) (hp : isPtr b = false) (β' : Nat → Option Nat) : Rep w β' S [b] [x] f := by
  cases h with
  | v h t => cases t; exact .v h .nil
  | any h t => cases t; exact .any h .nil
  | bp hb t => simp [isPtr] at hp
  | nils hnf t => cases t; exact .nils hnf .nil
  | emp hnf hc t => cases t; exact .emp hnf hc .nil
  | shd hnf hg hrow hn hsz hpos hcap hmax hin t => cases t; exact .shd hnf hg hrow hn hsz hpos hcap hmax hin .nil
  | owd hnf hg hn hsz hpos hcap hmax hcur hin t => cases t; exact .owd hnf hg hn hsz hpos hcap hmax hcur hin .nil
  | ep hg hrow hsz hi hin t => cases t; exact .ep hg hrow hsz hi hin .nil
  | cp hg hrow hin t => cases t; exact .cp hg hrow hin .nil
  | own hg hin t => cases t; exact .own hg hin .nil
  | clo hin t => simp [isPtr] at hp

theorem isPtr_shc (b : AV) : isPtr (shc b) = isPtr b := by
  cases b with
  | sl o n s els => cases o <;> rfl
  | _ => rfl

/-- Shared: all that the call may read is among the shared; nothing is owned. -/
theorem share_ok (h : SR C σ a w W) {t : TV} {z : Value} (ht : TV1 C σ W w t z) {b : AV} {σ' : St} {l : Log} (hr : (share t).run P cr σ = some (b, σ', l)) (β' : Nat → Option Nat) :
    σ' = σ ∧ isPtr b = false ∧ Rep w β' (ShA C w) [b] [z] [] := by
  cases t with
  | val b0 =>
    obtain ⟨h1, h2⟩ := chk_run (show (chk (!isPtr b0) (Pr.ret (shc b0))).run P cr σ = _ from hr)
    obtain ⟨rfl, rfl, _⟩ := ret_run h2
    have hp : isPtr b0 = false := by simpa using h1
    refine ⟨rfl, by rw [isPtr_shc]; exact hp, ?_⟩
    have := (Rep.noβ ht hp β').shc (S' := ShA C w) (fun b hb => hb.toA) (by simp)
    simpa [shcL] using this
  | ref r c ver p =>
    obtain ⟨b0, σ1, l1, l2, h1, h2, rfl⟩ := run_bind_some hr
    obtain ⟨rfl, β1, f, hb1, hb2, hf, hlv, hrep⟩ := content_ok h h1 ht.2
    obtain ⟨h3, h4⟩ := chk_run h2
    obtain ⟨rfl, rfl, _⟩ := ret_run h4
    have hp : isPtr b0 = false := by cases b0 <;> simp_all [isSl, isPtr]
    refine ⟨rfl, by rw [isPtr_shc]; exact hp, ?_⟩
    have := (Rep.noβ hrep hp β').shc (S' := ShA C w) (fun b hb => hb.toA) (fun b hb => h.fpA hlv (hf b hb))
    simpa [shcL] using this
  | eref r c ver p sz i k => exact (fail_run (show (Pr.fail : Pr AV).run P cr σ = _ from hr)).elim

theorem shares_ok (h : SR C σ a w W) (β' : Nat → Option Nat) {tvs : List TV} : ∀ {vs : List Value}, View C σ W w tvs vs → ∀ {bs : List AV} {σ' : St} {l : Log}, (shares tvs).run P cr σ = some (bs, σ', l) →
    σ' = σ ∧ bs.length = tvs.length ∧ Rep w β' (ShA C w) bs vs [] := by
  induction tvs with
  | nil =>
    intro vs hv bs σ' l hr
    cases vs with
    | cons _ _ => exact hv.elim
    | nil =>
      obtain ⟨rfl, rfl, _⟩ := ret_run (show (Pr.ret []).run P cr σ = _ from hr)
      exact ⟨rfl, rfl, .nil⟩
  | cons t ts ih =>
    intro vs hv bs σ' l hr
    cases vs with
    | nil => exact hv.elim
    | cons z zs =>
      obtain ⟨b, σ1, l1, l2, h1, h2, rfl⟩ := run_bind_some (show (share t >>= fun a => shares ts >>= fun as => Pr.ret (a :: as)).run P cr σ = _ from hr)
      obtain ⟨rfl, _, hb⟩ := share_ok h hv.1 h1 β'
      obtain ⟨bs', σ2, l3, l4, h3, h4, rfl⟩ := run_bind_some h2
      obtain ⟨rfl, hlen, hbs⟩ := ih hv.2 h3
      obtain ⟨rfl, rfl, _⟩ := ret_run h4
      exact ⟨rfl, by simp [hlen], hb.append hbs⟩

end Go.Vs

namespace Go.Vs

variable {C : Ctx} {σ : St} {a : Act} {w : World} {W : Wit} {P : Program} {cr : CallR}

/-- From one state to another over the same memory: what is known stays known. -/
structure Mv (C : Ctx) (w : World) (σ : St) (W : Wit) (σ' : St) (W' : Wit) : Prop where
  β : W'.β = W.β
  cv : W'.cv = W.cv
  sh : ∀ b, Sh C σ W w b → Sh C σ' W' w b
  loc : ∀ r c ver p y, Loc w σ W r c ver p y → Loc w σ' W' r c ver p y

theorem Mv.refl (C : Ctx) (w : World) (σ : St) (W : Wit) : Mv C w σ W σ W := ⟨rfl, rfl, fun _ h => h, fun _ _ _ _ _ h => h⟩

theorem Mv.trans {σ1 σ2 : St} {W1 W2 : Wit} (h : Mv C w σ W σ1 W1) (k : Mv C w σ1 W1 σ2 W2) : Mv C w σ W σ2 W2 :=
  ⟨k.β.trans h.β, k.cv.trans h.cv, fun b hb => k.sh b (h.sh b hb), fun r c ver p y hl => k.loc _ _ _ _ _ (h.loc r c ver p y hl)⟩

theorem Mv.ref {σ1 : St} {W1 : Wit} (h : Mv C w σ W σ1 W1) {t : TV} {z : Value} (ht : RefOk w σ W t z) : RefOk w σ1 W1 t z := by
  cases t with
  | val _ => trivial
  | ref r c ver p => exact ⟨ht.1, h.loc _ _ _ _ _ ht.2⟩
  | eref r c ver p sz i k =>
    obtain ⟨g, n, cap, hx, hl⟩ := ht
    exact ⟨g, n, cap, hx, h.loc _ _ _ _ _ hl⟩

theorem Mv.rep {σ1 : St} {W1 : Wit} (h : Mv C w σ W σ1 W1) {as : List AV} {vs : List Value} {f : List Nat} (hr : Rep w W.β (Sh C σ W w) as vs f) : Rep w W1.β (Sh C σ1 W1 w) as vs f :=
  hr.mono (fun b hb => ⟨h.sh b hb, rfl⟩) (fun _ _ => rfl) (fun _ _ hb => by rw [h.β]; exact hb)

theorem Mv.tv1 {σ1 : St} {W1 : Wit} (h : Mv C w σ W σ1 W1) {t : TV} {z : Value} (ht : TV1 C σ W w t z) : TV1 C σ1 W1 w t z := by
  cases t with
  | val b => exact h.rep ht
  | ref r c ver p => exact h.ref (t := .ref r c ver p) ht
  | eref r c ver p sz i k => exact h.ref (t := .eref r c ver p sz i k) ht

theorem Mv.view {σ1 : St} {W1 : Wit} (h : Mv C w σ W σ1 W1) {tvs : List TV} {vs : List Value} (ht : View C σ W w tvs vs) : View C σ1 W1 w tvs vs := by
  induction tvs generalizing vs with
  | nil => cases vs with
    | nil => trivial
    | cons _ _ => exact ht.elim
  | cons t l ih => cases vs with
    | nil => exact ht.elim
    | cons z zs => exact ⟨h.tv1 ht.1, ih ht.2⟩

/-- To be laid into a place. -/
structure Held (C : Ctx) (σ : St) (W : Wit) (w : World) (tvs : List TV) (vs : List Value) (f : List Nat) : Prop where
  rep : Rep w W.β (Sh C σ W w) (tvs.map own) vs f
  refs : ∀ (c : Nat) (t : TV) (z : Value), tvs[c]? = some t → vs[c]? = some z → RefOk w σ W t z

theorem Held.nil : Held C σ W w [] [] [] := ⟨.nil, by simp⟩

theorem Held.cons {t : TV} {z : Value} {f1 f2 : List Nat} {ts : List TV} {zs : List Value} (h1 : Rep w W.β (Sh C σ W w) [own t] [z] f1) (h2 : RefOk w σ W t z) (h : Held C σ W w ts zs f2) :
    Held C σ W w (t :: ts) (z :: zs) (f1 ++ f2) :=
  ⟨h1.append h.rep, fun c t' z' ht hz => by
    cases c with
    | zero => simp at ht hz; subst ht; subst hz; exact h2
    | succ c => simp at ht hz; exact h.refs c t' z' ht hz⟩

theorem Held.mv {σ1 : St} {W1 : Wit} (h : Mv C w σ W σ1 W1) {tvs : List TV} {vs : List Value} {f : List Nat} (ht : Held C σ W w tvs vs f) : Held C σ1 W1 w tvs vs f :=
  ⟨h.rep ht.rep, fun c t z h1 h2 => h.ref (ht.refs c t z h1 h2)⟩

/-- A view that holds no memory of its own is held as it stands. -/
theorem Held.of_view {tvs : List TV} {vs : List Value} (h : View C σ W w tvs vs) : Held C σ W w tvs vs [] := by
  induction tvs generalizing vs with
  | nil => cases vs with
    | nil => exact .nil
    | cons _ _ => exact h.elim
  | cons t l ih => cases vs with
    | nil => exact h.elim
    | cons z zs =>
      refine Held.cons (f1 := []) ?_ ?_ (ih h.2)
      · cases t with
        | val b => exact h.1
        | ref r c ver p => exact .any h.1.1 .nil
        | eref r c ver p sz i k => obtain ⟨g, n, cap, rfl, _⟩ := h.1; exact .any (erv_one _ _ _ _) .nil
      · cases t with
        | val b => trivial
        | ref r c ver p => exact h.1
        | eref r c ver p sz i k => exact h.1

theorem Loc.other {r r' : Rs} {x : Nat × Nat} {y : Shape × List TV} {W' : Wit} {c : Nat} {ver : Nat × Nat} {p : Path} {z : Value} (hne : r' ≠ r) (hcv : W'.cv r' = W.cv r')
    (hl : Loc w σ W r' c ver p z) : Loc w (σ.put r (x, some y)) W' r' c ver p z := by
  refine ⟨hl.1.put (Ne.symm hne), fun v s' tvs' hr hv => ?_⟩
  rw [St.get_put_ne _ _ (Ne.symm hne)] at hr
  rw [hcv]
  exact hl.2 v s' tvs' hr hv

theorem upd_self {α : Type} (f : Rs → α) (r : Rs) : upd f r (f r) = f := by
  funext s; unfold upd; split
  · rename_i h; rw [h]
  · rfl

/-- The content of one cell goes into the hand (or comes out of it); the headers stand. -/
theorem SR.turn (h : SR C σ a w W) {r : Rs} {v : Nat × Nat} {s : Shape} {tvs tvs' : List TV} {f hand' : List Nat} (hr : σ.get r = (v, some (s, tvs))) (hlen : tvs'.length = tvs.length)
    (hheld : Held C σ W w tvs' (W.cv r) f) (hpart : ∀ b, b ∈ f ∨ b ∈ hand' → b ∈ W.fp r ∨ b ∈ W.hand) (hnd : f.Nodup) (hnh : hand'.Nodup) (hdj : ∀ b ∈ f, b ∉ hand') :
    SR C (σ.put r (cUp v, some (s, tvs'))) a w { W with fp := upd W.fp r f, hand := hand' } ∧
    Mv C w σ W (σ.put r (cUp v, some (s, tvs'))) { W with fp := upd W.fp r f, hand := hand' } := by
  have hlv : live σ r := ⟨v, s, tvs, hr⟩
  have e : ({ W with fp := upd W.fp r f, hand := hand' } : Wit) = { W with cv := upd W.cv r (W.cv r), fp := upd W.fp r f, hand := hand' } := by rw [upd_self]
  have hloc : ∀ c ver p y, Loc w σ W r c ver p y → Loc w (σ.put r (cUp v, some (s, tvs'))) { W with cv := upd W.cv r (W.cv r), fp := upd W.fp r f, hand := hand' } r c ver p y :=
    fun c ver p y hl => Loc.turned hr rfl (by simp [cUp]) hl
  have hp : ∀ b, b ∈ f ∨ b ∈ hand' → (live σ r ∧ b ∈ W.fp r) ∨ b ∈ W.hand := fun b hb => (hpart b hb).imp (fun h => ⟨hlv, h⟩) id
  refine ⟨?_, ?_⟩
  · rw [e]
    refine h.put hheld.rep hp hnd hnh hdj hloc hheld.refs ?_ (fun _ _ => rfl) (fun _ _ => ⟨hlv, rfl⟩) (fun _ _ => ⟨hlv, rfl⟩) h.dfr
    rintro i rfl
    rw [hlen]
    exact h.slot i v s tvs hr
  · refine ⟨rfl, rfl, ?_, ?_⟩
    · rintro b ⟨h1, h2, h3⟩
      refine ⟨h1, h2, ?_⟩
      rintro (⟨r', hr', hb⟩ | hx | hb)
      · by_cases he : r' = r
        · subst he
          simp only [upd_same] at hb
          rcases hp b (.inl hb) with ⟨h4, h5⟩ | h4
          · exact h3 (.inl ⟨_, h4, h5⟩)
          · exact h3 (.inr (.inr h4))
        · simp only [upd_ne _ _ he] at hb
          exact h3 (.inl ⟨r', (live_put.1 hr').resolve_left he, hb⟩)
      · exact h3 (.inr (.inl hx))
      · rcases hp b (.inr hb) with ⟨h4, h5⟩ | h4
        · exact h3 (.inl ⟨_, h4, h5⟩)
        · exact h3 (.inr (.inr h4))
    · intro r' c ver p y hl
      by_cases he : r' = r
      · subst he
        have := hloc c ver p y hl
        rw [upd_self] at this
        exact this
      · exact Loc.other he rfl hl

theorem nodup_mid {f1 fc f2 : List Nat} (h : (f1 ++ fc ++ f2).Nodup) : (f1 ++ f2).Nodup ∧ fc.Nodup ∧ ∀ b ∈ f1 ++ f2, b ∉ fc := by
  simp only [List.nodup_append, List.mem_append] at h ⊢
  obtain ⟨⟨h1, h2, h3⟩, h4, h5⟩ := h
  refine ⟨⟨h1, h4, fun x hx y hy => h5 x (.inl hx) y hy⟩, h2, ?_⟩
  rintro b (hb | hb) hc
  · exact h3 b hb b hc rfl
  · exact h5 b (.inr hc) b hb rfl

/-- What is taken out of a place. -/
theorem takeRef_ok (h : SR C σ a w W) {r : Rs} {c : Nat} {ver : Nat × Nat} {z : Value} (hl : Loc w σ W r c ver [] z) {b : AV} {σ' : St} {l : Log}
    (hz1 : z.oneCell' = true) (hr : (takeRef r c ver).run P cr σ = some (b, σ', l)) :
    ∃ W' f, SR C σ' a w W' ∧ Mv C w σ W σ' W' ∧ W'.hand = f ++ W.hand ∧ Rep w W'.β (Sh C σ' W' w) [b] [z] f := by
  obtain ⟨l', h1, rfl⟩ := get_run hr
  cases hg : σ.get r with
  | mk v o => cases o with
    | none => rw [hg] at h1; exact (fail_run h1).elim
    | some x =>
      obtain ⟨s, tvs⟩ := x
      rw [hg] at h1
      simp only at h1
      cases hv : verOk v ver [] with
      | false => rw [hv] at h1; exact (fail_run h1).elim
      | true =>
        rw [hv] at h1
        simp only at h1
        split at h1
        · rename_i a0 ha
          obtain ⟨l2, h2, rfl⟩ := put_run h1
          obtain ⟨rfl, rfl, _⟩ := ret_run h2
          obtain ⟨u, hu, hcase⟩ := hl.2 v s tvs hg hv
          have huz : z = u := by
            rcases hcase with ⟨_, h3⟩ | ⟨h3, _⟩
            · exact h3
            · exact absurd rfl h3
          subst huz
          have hlv : live σ r := ⟨v, s, tvs, hg⟩
          have hrep := h.rep r v s tvs hg
          have hat : (tvs.map own)[c]? = some b := by simp [ha, own]
          obtain ⟨u', f1, fc, f2, hu', hf, hone, ht1, ht2⟩ := hrep.at hat
          rw [hu] at hu'; cases hu'
          have hnd := h.nd r hlv
          rw [hf] at hnd
          obtain ⟨hn1, hn2, hn3⟩ := nodup_mid hnd
          have hc : c < (tvs.map own).length := (List.getElem?_eq_some_iff.1 hat).1
          have hset := Rep.set hc hrep.length ht1 (Rep.any (x := z) hz1 .nil) ht2
          have hcv : (W.cv r).set c z = W.cv r := by
            apply List.ext_getElem?
            intro j
            rw [List.getElem?_set]
            split
            · rename_i hj; subst hj
              split
              · exact hu.symm
              · rename_i hj2; rw [List.getElem?_eq_none (by omega)]
            · rfl
          rw [hcv] at hset
          have hmap : (tvs.map own).set c .any = (tvs.set c (.val .any)).map own := by rw [List.map_set]; rfl
          rw [hmap] at hset
          simp only [List.append_nil] at hset
          have hheld : Held C σ W w (tvs.set c (.val .any)) (W.cv r) (f1 ++ f2) := by
            refine ⟨hset, fun c' t' z' ht hz => ?_⟩
            rw [List.getElem?_set] at ht
            split at ht
            · split at ht
              · cases ht; trivial
              · cases ht
            · exact h.refs r v s tvs hg c' t' z' ht hz
          have hsub : ∀ x, x ∈ fc → x ∈ W.fp r := fun x hx => by rw [hf]; simp [hx]
          have hsub2 : ∀ x, x ∈ f1 ++ f2 → x ∈ W.fp r := fun x hx => by rw [hf]; simp at hx ⊢; rcases hx with hx | hx <;> simp [hx]
          have hnh : (fc ++ W.hand).Nodup := by
            rw [List.nodup_append]
            refine ⟨hn2, h.hnd, fun x hx y hy he => ?_⟩
            subst he
            exact (h.hdis x hy).1 r hlv (hsub x hx)
          obtain ⟨h5, h6⟩ := h.turn hg (by simp) hheld (f := f1 ++ f2) (hand' := fc ++ W.hand) (by
              rintro x (hx | hx)
              · exact .inl (hsub2 x hx)
              · rcases List.mem_append.1 hx with hx | hx
                · exact .inl (hsub x hx)
                · exact .inr hx) hn1 hnh (by
              intro x hx hx2
              rcases List.mem_append.1 hx2 with hx2 | hx2
              · exact hn3 x hx hx2
              · exact (h.hdis x hx2).1 r hlv (hsub2 x hx))
          exact ⟨_, fc, h5, h6, rfl, h6.rep hone⟩
        · exact (fail_run h1).elim

theorem take_ok (h : SR C σ a w W) {t : TV} {z : Value} (ht : TV1 C σ W w t z) {t' : TV} {σ' : St} {l : Log} (hr : (take t).run P cr σ = some (t', σ', l)) :
    ∃ W' f, SR C σ' a w W' ∧ Mv C w σ W σ' W' ∧ W'.hand = f ++ W.hand ∧ Rep w W'.β (Sh C σ' W' w) [own t'] [z] f ∧ RefOk w σ' W' t' z := by
  cases t with
  | val b =>
    obtain ⟨rfl, rfl, _⟩ := ret_run (show (Pr.ret (TV.val b)).run P cr σ = _ from hr)
    exact ⟨W, [], h, .refl _ _ _ _, rfl, ht, trivial⟩
  | ref r c ver p =>
    cases p with
    | cons x p =>
      obtain ⟨rfl, rfl, _⟩ := ret_run (show (Pr.ret (TV.ref r c ver (x :: p))).run P cr σ = _ from hr)
      exact ⟨W, [], h, .refl _ _ _ _, rfl, .any ht.1 .nil, ht⟩
    | nil =>
      have hr2 : (match isEx r with | true => Pr.ret (TV.ref r c ver []) | false => (takeRef r c ver) >>= fun a => Pr.ret (TV.val a)).run P cr σ = some (t', σ', l) := hr
      cases hx : isEx r with
      | true =>
        rw [hx] at hr2
        obtain ⟨rfl, rfl, _⟩ := ret_run hr2
        exact ⟨W, [], h, .refl _ _ _ _, rfl, .any ht.1 .nil, ht⟩
      | false =>
        rw [hx] at hr2
        obtain ⟨b, σ1, l1, l2, h1, h2, rfl⟩ := run_bind_some hr2
        obtain ⟨rfl, rfl, _⟩ := ret_run h2
        obtain ⟨W', f, h3, h4, h5, h6⟩ := takeRef_ok h ht.2 ht.1 h1
        exact ⟨W', f, h3, h4, h5, h6, trivial⟩
  | eref r c ver p sz i k =>
    obtain ⟨_, h2⟩ := chk_run (show (chk (Nat.beq sz 0) _).run P cr σ = _ from hr)
    obtain ⟨rfl, rfl, _⟩ := ret_run h2
    obtain ⟨g, n, cap, rfl, hl⟩ := ht
    exact ⟨W, [], h, .refl _ _ _ _, rfl, .any (erv_one _ _ _ _) .nil, ⟨g, n, cap, rfl, hl⟩⟩

theorem takes_ok {tvs : List TV} : ∀ {σ : St} {W : Wit} {vs : List Value}, SR C σ a w W → View C σ W w tvs vs → ∀ {ts : List TV} {σ' : St} {l : Log}, (takes tvs).run P cr σ = some (ts, σ', l) →
    ∃ W' f, SR C σ' a w W' ∧ Mv C w σ W σ' W' ∧ (∃ f', W'.hand = f' ++ W.hand ∧ ∀ b, b ∈ f ↔ b ∈ f') ∧ f.Nodup ∧ Held C σ' W' w ts vs f ∧ ts.length = tvs.length := by
  induction tvs with
  | nil =>
    intro σ W vs h hv ts σ' l hr
    cases vs with
    | cons _ _ => exact hv.elim
    | nil =>
      obtain ⟨rfl, rfl, _⟩ := ret_run (show (Pr.ret []).run P cr σ = _ from hr)
      exact ⟨W, [], h, .refl _ _ _ _, ⟨[], rfl, by simp⟩, by simp, .nil, rfl⟩
  | cons t tl ih =>
    intro σ W vs h hv ts σ' l hr
    cases vs with
    | nil => exact hv.elim
    | cons z zs =>
      obtain ⟨t', σ1, l1, l2, h1, h2, rfl⟩ := run_bind_some (show (take t >>= fun a => takes tl >>= fun as => Pr.ret (a :: as)).run P cr σ = _ from hr)
      obtain ⟨W1, f1, g1, g2, g3, g4, g5⟩ := take_ok h hv.1 h1
      obtain ⟨ts', σ2, l3, l4, h3, h4, rfl⟩ := run_bind_some h2
      obtain ⟨W2, f2, k1, k2, ⟨f2', k3, k4⟩, k5, k6, k7⟩ := ih g1 (g2.view hv.2) h3
      obtain ⟨rfl, rfl, _⟩ := ret_run h4
      have hn := k1.hnd
      rw [k3, g3] at hn
      refine ⟨W2, f1 ++ f2, k1, g2.trans k2, ⟨f2' ++ f1, by rw [k3, g3]; simp, ?_⟩, ?_, Held.cons (k2.rep g4) (k2.ref g5) k6, by simp [k7]⟩
      · intro b; simp [k4 b, or_comm]
      · rw [List.nodup_append]
        simp only [List.nodup_append, List.mem_append] at hn
        refine ⟨hn.2.1.1, k5, fun x hx y hy he => ?_⟩
        subst he
        exact hn.2.2 x ((k4 x).1 hy) x (.inl hx) rfl

theorem vals_ok {tvs : List TV} : ∀ {vs : List Value} {f : List Nat}, Held C σ W w tvs vs f → ∀ {bs : List AV} {σ' : St} {l : Log}, (vals tvs).run P cr σ = some (bs, σ', l) →
    σ' = σ ∧ tvs = valTVs bs ∧ Rep w W.β (Sh C σ W w) bs vs f := by
  induction tvs with
  | nil =>
    intro vs f h bs σ' l hr
    obtain ⟨rfl, rfl, _⟩ := ret_run (show (Pr.ret []).run P cr σ = _ from hr)
    exact ⟨rfl, rfl, by simpa using h.rep⟩
  | cons t tl ih =>
    intro vs f h bs σ' l hr
    cases t with
    | val b =>
      obtain ⟨bs', σ1, l1, l2, h1, h2, rfl⟩ := run_bind_some (show (vals tl >>= fun as => Pr.ret (b :: as)).run P cr σ = _ from hr)
      obtain ⟨rfl, rfl, _⟩ := ret_run h2
      obtain ⟨z, zs, f1, f2, rfl, rfl, h3, h4⟩ := Rep.uncons (show Rep w W.β (Sh C σ W w) (b :: tl.map own) vs f from h.rep)
      obtain ⟨rfl, rfl, h5⟩ := ih (f := f2) (vs := zs) ⟨h4, fun c t z' ht hz => h.refs (c + 1) t z' (by simpa using ht) (by simpa using hz)⟩ h1
      exact ⟨rfl, rfl, h3.append h5⟩
    | ref r c ver p => exact (fail_run (show (Pr.fail : Pr (List AV)).run P cr σ = _ from hr)).elim
    | eref r c ver p sz i k => exact (fail_run (show (Pr.fail : Pr (List AV)).run P cr σ = _ from hr)).elim

theorem valTVs_own (bs : List AV) : (valTVs bs).map own = bs := by
  induction bs with
  | nil => rfl
  | cons b l ih => simp [valTVs, own, ih]

theorem valTVs_length (bs : List AV) : (valTVs bs).length = bs.length := by
  induction bs with
  | nil => rfl
  | cons b l ih => simp [valTVs, ih]

theorem valTVs_refs (bs : List AV) (c : Nat) (t : TV) (z : Value) (ht : (valTVs bs)[c]? = some t) : RefOk w σ W t z := by
  induction bs generalizing c with
  | nil => simp [valTVs] at ht
  | cons b l ih =>
    cases c with
    | zero => simp [valTVs] at ht; subst ht; trivial
    | succ c => simp [valTVs] at ht; exact ih c ht

theorem Held.of_vals {bs : List AV} {vs : List Value} {f : List Nat} (h : Rep w W.β (Sh C σ W w) bs vs f) : Held C σ W w (valTVs bs) vs f :=
  ⟨by rw [valTVs_own]; exact h, fun c t z ht _ => valTVs_refs bs c t z ht⟩

/-- A slot is laid. What it takes comes out of the hand. -/
theorem setSl_ok (h : SR C σ a w W) {d : Option Tmp} {s : Shape} {tvs : List TV} {vs : List Value} {f hand' : List Nat} (hd : ∀ t, d = some t → t < a.tmps.size)
    (hheld : Held C σ W w tvs vs f) (hs : shapeOk s tvs.length) (hf : ∀ b ∈ f, b ∈ W.hand) (hh : ∀ b ∈ hand', b ∈ W.hand) (hnd : f.Nodup) (hnh : hand'.Nodup) (hdj : ∀ b ∈ f, b ∉ hand')
    {σ' : St} {l : Log} {u : Unit} (hr : (setSl d s tvs).run P cr σ = some (u, σ', l)) :
    ∃ W', SR C σ' (a.put d (shVal s vs)) w W' ∧ W'.hand = hand' := by
  cases d with
  | none =>
    obtain ⟨_, rfl, _⟩ := ret_run (show (Pr.ret ()).run P cr σ = _ from hr)
    obtain ⟨h1, _, _⟩ := h.world (hand' := hand') (Keeps.refl w W.hand) hnh (fun b hb => ⟨.inl (hh b hb), (h.hrng b (hh b hb)).2⟩)
    exact ⟨_, h1, rfl⟩
  | some d =>
    have hdl := hd d rfl
    have key : ∀ (x : Nat × Nat), (∀ ver, VerB σ (.sl d) ver → ver.1 < x.1) →
        SR C (σ.put (.sl d) (x, some (s, tvs))) (a.put (some d) (shVal s vs)) w { W with cv := upd W.cv (.sl d) vs, fp := upd W.fp (.sl d) f, hand := hand' } := by
      intro x hx
      refine h.put hheld.rep ?_ hnd hnh hdj (fun c ver p y hl => Loc.gone hx hl) hheld.refs ?_ ?_ (by simp) (by simp) h.dfr
      · rintro b (hb | hb)
        · exact .inr (hf b hb)
        · exact .inr (hh b hb)
      · rintro i hi
        cases hi
        exact ⟨by simp [Act.put, hdl], hs⟩
      · intro i hi
        have : d ≠ i := fun e => hi (by rw [e])
        simp [Act.put, Array.getElem?_setIfInBounds_ne this]
    obtain ⟨l', h1, rfl⟩ := get_run hr
    cases hg : σ.get (.sl d) with
    | mk v o => cases o with
      | none =>
        rw [hg] at h1
        obtain ⟨l2, h2, rfl⟩ := put_run h1
        obtain ⟨_, rfl, _⟩ := ret_run h2
        refine ⟨_, key v fun ver hv => ?_, rfl⟩
        unfold VerB at hv
        rw [hg] at hv
        exact hv
      | some y =>
        rw [hg] at h1
        obtain ⟨l2, h2, rfl⟩ := put_run h1
        obtain ⟨_, rfl, _⟩ := ret_run h2
        refine ⟨_, key (hUp v) fun ver hv => ?_, rfl⟩
        unfold VerB at hv
        rw [hg] at hv
        simp only at hv
        simp only [hUp]
        omega

theorem setV_ok (h : SR C σ a w W) {d : Option Tmp} {x : Value} (hd : ∀ t, d = some t → t < a.tmps.size) (hx : scalar x = true) {σ' : St} {l : Log} {u : Unit}
    (hr : (setV d x).run P cr σ = some (u, σ', l)) : ∃ W', SR C σ' (a.put d x) w W' ∧ W'.hand = W.hand :=
  setSl_ok h (s := .one) (tvs := [.val (.v x)]) (vs := [x]) (f := []) (hand' := W.hand) hd ⟨.v hx .nil, fun c t z ht hz => by
    cases c with
    | zero => simp at ht; subst ht; trivial
    | succ c => simp at ht⟩ rfl (by simp) (fun _ h => h) (by simp) h.hnd (by simp) hr

end Go.Vs

namespace Go.Vs

/-! ### The table of types is the program's -/

def isAggD : TypeDesc → Bool
  | .struct _ | .array _ _ => true
  | _ => false

def isAggK : TyK → Bool
  | .struct _ => true
  | _ => false

def KindOk (P : Program) (d : TypeDesc) : TyK → Prop
  | .bool => d = .bool
  | .int k => d = .int k
  | .string => d = .string
  | .slice e => d = .slice e
  | .struct fs => ∃ fields, d = .struct fields ∧ fs.length = fields.size ∧ ∀ (i o n : Nat) (g : Bool), fs[i]? = some (o, n, g) → ∃ (f : Field) (info : TypeInfo) (d' : TypeDesc), fields[i]? = some f ∧ f.offset = o ∧ P.info? f.type = some info ∧ info.size = n ∧
      P.underlying f.type = some d' ∧ g = isAggD d'
  | .other => isAggD d = false

structure TyOk (P : Program) (t : TypeId) (i : TyI) : Prop where
  ex : ∃ info d z, P.info? t = some info ∧ P.underlying t = some d ∧ info.size = i.size ∧ info.bytes = i.bytes ∧ info.zero = some z ∧ z.cells.toList = i.zero ∧ KindOk P d i.kind

def EnvOk (P : Program) (Γ : Env) : Prop := ∀ t i, Γ.find t = some i → TyOk P t i

variable {C : Ctx} {σ : St} {a : Act} {w : World} {W : Wit} {P : Program} {cr : CallR} {Γ : Env}

theorem wp_value {o : Oper} {v : Value} {w' : World} {next : Act → World → Prop} {Q : Exit → Act → World → Prop} (hr : (execOp a.eval o).run P w = .ok (.value v) w')
    (h : next (a.put o.dst v) w') : o.wp P a w next Q := by
  unfold Oper.wp; rw [hr]; exact h

theorem wp_noval {o : Oper} {w' : World} {next : Act → World → Prop} {Q : Exit → Act → World → Prop} (hr : (execOp a.eval o).run P w = .ok .skip w')
    (h : next (a.put o.dst undef) w') : o.wp P a w next Q := by
  unfold Oper.wp; rw [hr]; exact h

theorem wp_enter {o : Oper} {f : FuncId} {args : Array Value} {w' : World} {next : Act → World → Prop} {Q : Exit → Act → World → Prop} (hr : (execOp a.eval o).run P w = .ok (.enter f args) w')
    (h : Calls P f args w' fun e w'' => ∃ v, e = .returned v ∧ next (a.put o.dst v) w'') : o.wp P a w next Q := by
  unfold Oper.wp; rw [hr]
  refine Calls.mono (show Calls P f args w' _ from h) ?_
  rintro e w'' ⟨v, rfl, hv⟩
  exact hv

/-- The operation does what its program says. -/
def OpOk (P : Program) (Γ : Env) (o : Oper) : Prop :=
  ∀ (C : Ctx) [TabFact C P] (σ : St) (a : Act) (w : World) (W : Wit) (cr : CallR) (σ' : St) (l : Log) (next : Act → World → Prop) (Q : Exit → Act → World → Prop),
    SR C σ a w W → W.hand = [] → (∀ t, o.dst = some t → t < a.tmps.size) → (opPr Γ o).run P cr σ = some ((), σ', l) →
    (∀ a' w' W', SR C σ' a' w' W' → W'.hand = [] → a'.tmps.size = a.tmps.size → next a' w') → o.wp P a w next Q

theorem put_size (a : Act) (d : Option Tmp) (v : Value) : (a.put d v).tmps.size = a.tmps.size := by
  cases d <;> simp [Act.put]

/-- A slot is laid with what holds no memory of its own (or the hand is empty and stays so). -/
theorem setSl_view (h : SR C σ a w W) (_hh : W.hand = []) {d : Option Tmp} {s : Shape} {tvs : List TV} {vs : List Value} (hd : ∀ t, d = some t → t < a.tmps.size)
    (hv : View C σ W w tvs vs) (hs : shapeOk s tvs.length) {σ' : St} {l : Log} {u : Unit} (hr : (setSl d s tvs).run P cr σ = some (u, σ', l)) :
    ∃ W', SR C σ' (a.put d (shVal s vs)) w W' ∧ W'.hand = [] := by
  obtain ⟨W', h1, h2⟩ := setSl_ok h hd (Held.of_view hv) hs (by simp) (hand' := []) (by simp) (by simp) (by simp) (by simp) hr
  exact ⟨W', h1, h2⟩

theorem setV_val (h : SR C σ a w W) (hh : W.hand = []) {d : Option Tmp} {x : Value} (hd : ∀ t, d = some t → t < a.tmps.size) (hx : scalar x = true) {σ' : St} {l : Log} {u : Unit}
    (hr : (setV d x).run P cr σ = some (u, σ', l)) {next : Act → World → Prop} (hn : ∀ a' w' W', SR C σ' a' w' W' → W'.hand = [] → a'.tmps.size = a.tmps.size → next a' w') : next (a.put d x) w := by
  obtain ⟨W', h1, h2⟩ := setV_ok h hd hx hr
  exact hn _ _ W' h1 (h2.trans hh) (put_size _ _ _)

theorem withTy_run {α : Type} {t : TypeId} {k : TyI → Pr α} {x : α} {τ : St} {l : Log} (h : (withTy Γ t k).run P cr σ = some (x, τ, l)) : ∃ i, Γ.find t = some i ∧ (k i).run P cr σ = some (x, τ, l) := by
  unfold withTy at h
  cases hf : Γ.find t with
  | none => rw [hf] at h; exact (fail_run h).elim
  | some i => rw [hf] at h; exact ⟨i, rfl, h⟩

section ops
variable {next : Act → World → Prop} {Q : Exit → Act → World → Prop} {σ' : St} {l : Log} {u : Unit}

theorem op_copy {o : Oper} {x : Operand} (ho : o.op = .move x) : OpOk P Γ o := by
  intro C HT σ a w W cr σ' l next Q h hh hd hr hn
  simp only [opPr, ho] at hr
  obtain ⟨⟨s, tvs⟩, σ1, l1, l2, h1, h2, rfl⟩ := run_bind_some hr
  obtain ⟨rfl, vs, he, hv, hs⟩ := rdOp_ok h h1
  obtain ⟨W', h3, h4⟩ := setSl_view h hh hd hv hs h2
  refine wp_value (v := shVal s vs) (w' := w) ?_ (hn _ _ W' h3 h4 (put_size _ _ _))
  simp [execOp, ho, he]

theorem setOwn_ok (h : SR C σ a w W) {d : Option Tmp} {s : Shape} {ts : List TV} {vs : List Value} {f : List Nat} (hd : ∀ t, d = some t → t < a.tmps.size)
    (hheld : Held C σ W w ts vs f) (hs : shapeOk s ts.length) (hf : ∀ b ∈ f, b ∈ W.hand) (hnd : f.Nodup) {σ' : St} {l : Log} {u : Unit} (hr : (setOwn d s ts).run P cr σ = some (u, σ', l)) :
    ∃ W', SR C σ' (a.put d (shVal s vs)) w W' ∧ W'.hand = [] := by
  unfold setOwn at hr
  split at hr
  · rename_i d cs
    obtain ⟨l1, h1, rfl⟩ := get_run hr
    cases hg : σ.get (.ow d) with
    | mk v o => cases o with
      | some z => rw [hg] at h1; exact (fail_run h1).elim
      | none =>
        rw [hg] at h1
        obtain ⟨l2, h2, rfl⟩ := put_run h1
        have hl : vs.length = 1 := by have := hheld.rep.length; simpa using this.symm
        obtain ⟨z, rfl⟩ : ∃ z, vs = [z] := by
          match vs, hl with
          | [z], _ => exact ⟨z, rfl⟩
        have hz : z.oneCell' = true := hheld.rep.oneCell
        have k1 := h.put (r := .ow d) (x := v) (s := .one) (tvs := [.val (.own cs)]) (vs := [z]) (f := f) (hand' := []) (a' := a) hheld.rep
          (by rintro b (hb | hb)
              · exact .inr (hf b hb)
              · simp at hb) hnd (by simp) (by simp)
          (fun c ver p y hl => Loc.gone (fun ver hv => by unfold VerB at hv; rw [hg] at hv; exact hv) hl)
          hheld.refs (by simp) (fun _ _ => rfl) (by simp) (by simp) h.dfr
        obtain ⟨W', k2, k3⟩ := setSl_view k1 rfl (d := some d) (s := .one) (tvs := [.ref (.ow d) 0 v []]) (vs := [z]) hd ⟨⟨hz, by
          unfold VerB
          rw [St.get_put_same]
          exact .inr ⟨rfl, Nat.le_refl _⟩, fun v' s' tvs' _ _ => ⟨z, by simp [upd_same], .inl ⟨rfl, rfl⟩⟩⟩, trivial⟩ rfl h2
        exact ⟨W', k2, k3⟩
  · exact setSl_ok h hd hheld hs hf (hand' := []) (by simp) hnd (by simp) (by simp) hr

theorem op_assign {o : Oper} {x : Operand} (ho : o.op = .assign x) : OpOk P Γ o := by
  intro C HT σ a w W cr σ' l next Q h hh hd hr hn
  simp only [opPr, ho] at hr
  obtain ⟨⟨s, tvs⟩, σ1, l1, l2, h1, h2, rfl⟩ := run_bind_some hr
  obtain ⟨rfl, vs, he, hv, hs⟩ := rdOp_ok h h1
  obtain ⟨ts, σ2, l3, l4, h3, h4, rfl⟩ := run_bind_some h2
  obtain ⟨W1, f, k1, k2, ⟨f', k3, k4⟩, k5, k6, k7⟩ := takes_ok h hv h3
  rw [hh, List.append_nil] at k3
  obtain ⟨W', h5, h6⟩ := setOwn_ok k1 hd k6 (by rw [k7]; exact hs) (fun b hb => by rw [k3]; exact (k4 b).1 hb) k5 h4
  refine wp_value (v := shVal s vs) (w' := w) ?_ (hn _ _ W' h5 h6 (put_size _ _ _))
  simp [execOp, ho, he]

theorem op_nilCheck {o : Oper} {x : Operand} (ho : o.op = .nilCheck x) : OpOk P Γ o := by
  intro C HT σ a w W cr σ' l next Q h hh hd hr hn
  simp only [opPr, ho] at hr
  obtain ⟨t, σ1, l1, l2, h1, h2, rfl⟩ := run_bind_some hr
  obtain ⟨rfl, ht⟩ := rdOne_ok h h1
  split at h2
  · rename_i b off
    generalize he : a.eval x = z at ht
    obtain ⟨W', h3, h4⟩ := setSl_view h hh hd (s := .one) (tvs := [.val (.bp b off)]) (vs := [z]) ⟨ht, trivial⟩ rfl h2
    refine wp_value (v := z) (w' := w) ?_ (hn _ _ W' h3 h4 (put_size _ _ _))
    cases ht with
    | bp hb t => simp [execOp, ho, he]
  · rename_i f caps
    generalize he : a.eval x = z at ht
    obtain ⟨W', h3, h4⟩ := setSl_view h hh hd (s := .one) (tvs := [.val (.clo f caps)]) (vs := [z]) ⟨ht, trivial⟩ rfl h2
    refine wp_value (v := z) (w' := w) ?_ (hn _ _ W' h3 h4 (put_size _ _ _))
    cases ht with
    | clo hin t => simp [execOp, ho, he]
  · exact (fail_run h2).elim

theorem op_pick {o : Oper} {c x y : Operand} (ho : o.op = .pick c x y) : OpOk P Γ o := by
  intro C HT σ a w W cr σ' l next Q h hh hd hr hn
  simp only [opPr, ho] at hr
  obtain ⟨b, σ1, l1, l2, h1, h2, rfl⟩ := run_bind_some hr
  obtain ⟨rfl, he, _⟩ := rdV_ok h h1
  cases b with
  | bool b' =>
    cases b' with
    | true =>
      obtain ⟨z, σ2, l3, l4, h3, h4, rfl⟩ := run_bind_some (show ((rdV x) >>= fun y => setV o.dst y).run P cr σ1 = some ((), σ', l2) by simpa [Pr.run] using h2)
      obtain ⟨rfl, hz, hs⟩ := rdV_ok h h3
      refine wp_value (v := z) (w' := w) ?_ (setV_val h hh hd hs h4 hn)
      simp [execOp, ho, he, hz, asBool]
    | false =>
      obtain ⟨z, σ2, l3, l4, h3, h4, rfl⟩ := run_bind_some (show ((rdV y) >>= fun y => setV o.dst y).run P cr σ1 = some ((), σ', l2) by simpa [Pr.run] using h2)
      obtain ⟨rfl, hz, hs⟩ := rdV_ok h h3
      refine wp_value (v := z) (w' := w) ?_ (setV_val h hh hd hs h4 hn)
      simp [execOp, ho, he, hz, asBool]
  | _ => exact (fail_run h2).elim

theorem run_equalIn_nil {P : Program} (w : World) (d : Nat) (t e : TypeId) (p : Option Addr) (n c : Nat) (h : P.underlying t = some (.slice e)) : (Op.equalIn (d + 1) t (.slice p n c) (.slice none 0 0)).run P w = .ok p.isNone w := by
  cases p <;> simp [Op.equalIn, run_underlying h]

theorem run_equalIn_bool {P : Program} (w : World) (d : Nat) (t : TypeId) (x y : Bool) (h : P.underlying t = some .bool) : (Op.equalIn (d + 1) t (.bool x) (.bool y)).run P w = .ok (x == y) w := by
  simp [Op.equalIn, run_underlying h]

theorem run_eql_nil {P : Program} (w : World) (t e : TypeId) (p : Option Addr) (n c : Nat) (h : P.underlying t = some (.slice e)) : (binOp .eql t (.slice p n c) (.slice none 0 0)).run P w = .ok (.bool p.isNone) w := by
  have := run_equalIn_nil (P := P) w 9999 t e p n c h
  simp only [binOp]
  simp [Op.equal, Op.maxDepth, this]

theorem run_neq_nil {P : Program} (w : World) (t e : TypeId) (p : Option Addr) (n c : Nat) (h : P.underlying t = some (.slice e)) : (binOp .neq t (.slice p n c) (.slice none 0 0)).run P w = .ok (.bool (!p.isNone)) w := by
  have := run_equalIn_nil (P := P) w 9999 t e p n c h
  simp only [binOp]
  simp [Op.equal, Op.maxDepth, this]

theorem run_eql_bool {P : Program} (w : World) (t : TypeId) (x y : Bool) (h : P.underlying t = some .bool) : (binOp .eql t (.bool x) (.bool y)).run P w = .ok (.bool (x == y)) w := by
  have := run_equalIn_bool (P := P) w 9999 t x y h
  simp only [binOp]
  simp [Op.equal, Op.maxDepth, this]

theorem run_neq_bool {P : Program} (w : World) (t : TypeId) (x y : Bool) (h : P.underlying t = some .bool) : (binOp .neq t (.bool x) (.bool y)).run P w = .ok (.bool (!(x == y))) w := by
  have := run_equalIn_bool (P := P) w 9999 t x y h
  simp only [binOp]
  simp [Op.equal, Op.maxDepth, this]

theorem intBin_ok {op : BinOp} {k : IntKind} {x y : Int} {d : Option Tmp} (hsh : isShift op = false) (t : TypeId)
    (hr : (intBin op k x y d).run P cr σ = some (u, σ', l)) : ∃ v, scalar v = true ∧ (binOp op t (.int k x) (.int k y)).run P w = .ok v w ∧ (setV d v).run P cr σ = some (u, σ', l) := by
  cases op <;> simp only [intBin] at hr <;> (try exact (fail_run hr).elim) <;> (try simp [isShift] at hsh)
  case add => exact ⟨_, rfl, by simp [go_sem], nm_run hr⟩
  case sub => exact ⟨_, rfl, by simp [go_sem], nm_run hr⟩
  case mul => exact ⟨_, rfl, by simp [go_sem], nm_run hr⟩
  case quo =>
    obtain ⟨h1, h2⟩ := req_run hr
    exact ⟨_, rfl, by simp [binOp, Op.intDiv, h1], nm_run h2⟩
  case rem =>
    obtain ⟨h1, h2⟩ := req_run hr
    exact ⟨_, rfl, by simp [binOp, Op.intDiv, h1], nm_run h2⟩
  case and => exact ⟨_, rfl, by simp [binOp, Op.intBits], nm_run hr⟩
  case or => exact ⟨_, rfl, by simp [binOp, Op.intBits], nm_run hr⟩
  case xor => exact ⟨_, rfl, by simp [binOp, Op.intBits], nm_run hr⟩
  case andNot => exact ⟨_, rfl, by simp [binOp, Op.intBits], nm_run hr⟩
  all_goals exact ⟨_, rfl, by simp [binOp, Op.intCmp], hr⟩

theorem strBin_ok {op : BinOp} {x y : ByteArray} {d : Option Tmp} (t : TypeId)
    (hr : (strBin op x y d).run P cr σ = some (u, σ', l)) : ∃ v, scalar v = true ∧ (binOp op t (.string x) (.string y)).run P w = .ok v w ∧ (setV d v).run P cr σ = some (u, σ', l) := by
  cases op <;> simp only [strBin] at hr <;> (try exact (fail_run hr).elim)
  case add =>
    obtain ⟨h1, h2⟩ := req_run hr
    have h1' : ¬ (((x.size + y.size : Nat) : Int) > IntKind.i64.max) := by omega
    refine ⟨_, rfl, ?_, h2⟩
    simp only [binOp, Op.stringOp]
    rw [if_neg h1']
    rfl
  all_goals exact ⟨_, rfl, by simp [binOp, Op.stringOp], hr⟩

theorem shiftBin_ok {op : BinOp} {k k' : IntKind} {x y : Int} {d : Option Tmp} (t : TypeId) (hsh : isShift op = true)
    (hr : (shiftBin op k x y d).run P cr σ = some (u, σ', l)) : ∃ v, scalar v = true ∧ (binOp op t (.int k x) (.int k' y)).run P w = .ok v w ∧ (setV d v).run P cr σ = some (u, σ', l) := by
  obtain ⟨h1, h2⟩ := req_run hr
  have h1' : ¬ y < 0 := by omega
  cases op <;> simp [isShift] at hsh
  case shl => exact ⟨_, rfl, by simp [binOp, Op.shift, h1'], nm_run h2⟩
  case shr => exact ⟨_, rfl, by simp [binOp, Op.shift, h1'], nm_run h2⟩

theorem kindEq_eq {k k' : IntKind} (h : kindEq k k' = true) : k = k' := by cases k <;> cases k' <;> simp [kindEq] at h <;> rfl

theorem eqGuard_scalar {op : BinOp} {t : TypeId} {x y : Operand} {u v : Value} (hu : (∃ k n, u = .int k n) ∨ (∃ b, u = .bool b) ∨ (∃ s, u = .string s) ∨ (∃ p n m, u = .slice p n m)) :
    eqGuard op t x y u v = pure () := by
  rcases hu with ⟨k, n, rfl⟩ | ⟨b, rfl⟩ | ⟨s, rfl⟩ | ⟨p, n, m, rfl⟩
  · exact eqGuard_at_int ..
  · exact eqGuard_at_bool ..
  · exact eqGuard_at_string ..
  · exact eqGuard_at_slice ..

theorem op_binOp (hΓ : EnvOk P Γ) {o : Oper} {op : BinOp} {T yT : TypeId} {x y : Operand} (ho : o.op = .binOp op T x y yT) : OpOk P Γ o := by
  intro C HT σ a w W cr σ' l next Q h hh hd hr hn
  simp only [opPr, ho, binPr] at hr
  cases hnil : isNilConst y with
  | true =>
    rw [hnil] at hr
    obtain ⟨i, hi, h1⟩ := withTy_run hr
    have hy : y = .const (.slice none 0 0) := by
      unfold isNilConst at hnil
      split at hnil
      · rfl
      · cases hnil
    obtain ⟨info, d, z, hinfo, hu, _, _, _, _, hk⟩ := (hΓ T i hi).ex
    split at h1
    · rename_i e hkind
      rw [hkind] at hk
      obtain ⟨t, σ1, l1, l2, h2, h3, rfl⟩ := run_bind_some h1
      obtain ⟨rfl, ht⟩ := rdOne_ok h h2
      obtain ⟨b, σ2, l3, l4, h4, h5, rfl⟩ := run_bind_some h3
      obtain ⟨rfl, _, hb⟩ := share_ok h ht h4 W.β
      cases b with
      | sl o' nn s els =>
        obtain rfl : d = .slice e := hk
        simp only at h5
        split at h5
        case h_2 => exact (fail_run h5).elim
        rename_i nb hnb
        have hval : ∃ (pa : Option Addr) (n m : Nat), a.eval x = .slice pa n m ∧ (nb = pa.isNone) := by
          generalize a.eval x = zz at hb
          cases hb with
          | nils hnf t => exact ⟨none, 0, 0, rfl, by cases nn <;> simp_all [nilOf]⟩
          | emp hnf hc t => exact ⟨_, _, _, rfl, by cases nn <;> simp_all [nilOf]⟩
          | shd hnf => exact ⟨_, _, _, rfl, by cases nn <;> cases els <;> simp_all [nilOf]⟩
        obtain ⟨pa, n, m, hx, hnn⟩ := hval
        have hy2 : a.eval y = .slice none 0 0 := by rw [hy]; rfl
        cases op <;> (try exact (fail_run h5).elim)
        · refine wp_value (v := .bool nb) (w' := w) ?_ (setV_val h hh hd rfl h5 hn)
          simp [execOp, ho, hx, hy2, eqGuard_at_slice, run_eql_nil w T e pa n m hu, hnn]
        · refine wp_value (v := .bool (!nb)) (w' := w) ?_ (setV_val h hh hd rfl h5 hn)
          simp [execOp, ho, hx, hy2, eqGuard_at_slice, run_neq_nil w T e pa n m hu, hnn]
      | _ => exact (fail_run h5).elim
    · exact (fail_run h1).elim
  | false =>
    rw [hnil] at hr
    simp only at hr
    obtain ⟨u, σ1, l1, l2, h1, h2, rfl⟩ := run_bind_some hr
    obtain ⟨rfl, hx, _⟩ := rdV_ok h h1
    obtain ⟨v, σ2, l3, l4, h3, h4, rfl⟩ := run_bind_some h2
    obtain ⟨rfl, hy, _⟩ := rdV_ok h h3
    have fin : ∀ res, scalar res = true → eqGuard op T x y u v = pure () → (binOp op T u v).run P w = .ok res w → (setV o.dst res).run P cr σ2 = some ((), σ', l4) → o.wp P a w next Q := by
      intro res hs hg hb hset
      refine wp_value (v := res) (w' := w) ?_ (setV_val h hh hd hs hset hn)
      simp [execOp, ho, hx, hy, hg, hb]
    have gen : (valBin op u v o.dst).run P cr σ2 = some ((), σ', l4) → (∀ b, u ≠ .bool b) → o.wp P a w next Q := by
      intro hv hnb
      cases u with
      | int k n => cases v with
        | int k' n' =>
          have hv2 : (match isShift op with | true => shiftBin op k n n' o.dst | false => match kindEq k k' with | true => intBin op k n n' o.dst | false => Pr.fail).run P cr σ2 = some ((), σ', l4) := hv
          have hg : eqGuard op T x y (.int k n) (.int k' n') = pure () := eqGuard_at_int ..
          cases hsh : isShift op with
          | true =>
            rw [hsh] at hv2
            obtain ⟨res, hs, hb, hset⟩ := shiftBin_ok (w := w) (k' := k') T hsh hv2
            exact fin res hs hg hb hset
          | false =>
            rw [hsh] at hv2
            cases hk : kindEq k k' with
            | false => rw [hk] at hv2; exact (fail_run hv2).elim
            | true =>
              rw [hk] at hv2
              have := kindEq_eq hk
              subst this
              obtain ⟨res, hs, hb, hset⟩ := intBin_ok (w := w) hsh T hv2
              exact fin res hs hg hb hset
        | _ => exact (fail_run hv).elim
      | string s1 => cases v with
        | string s2 =>
          obtain ⟨res, hs, hb, hset⟩ := strBin_ok (w := w) T (show (strBin op s1 s2 o.dst).run P cr σ2 = some ((), σ', l4) from hv)
          exact fin res hs (eqGuard_at_string ..) hb hset
        | _ => exact (fail_run hv).elim
      | bool b => exact absurd rfl (hnb b)
      | _ => exact (fail_run hv).elim
    have boolcase : ∀ (b : Bool), u = .bool b → (op = .eql ∨ op = .neq) → ∀ i, Γ.find T = some i → i.kind = .bool → (valBin op u v o.dst).run P cr σ2 = some ((), σ', l4) → o.wp P a w next Q := by
      intro b hb hop i hi hkind hv
      subst hb
      obtain ⟨info, d, z, hinfo, hu, _, _, _, _, hk⟩ := (hΓ T i hi).ex
      rw [hkind] at hk
      obtain rfl : d = .bool := hk
      cases v with
      | bool b2 =>
        rcases hop with rfl | rfl
        · exact fin _ rfl (eqGuard_at_bool ..) (run_eql_bool w T _ _ hu) hv
        · exact fin _ rfl (eqGuard_at_bool ..) (run_neq_bool w T _ _ hu) hv
      | _ => exact (fail_run hv).elim
    cases u with
    | bool b =>
      by_cases he : op = .eql
      · subst he
        obtain ⟨i, hi, h5⟩ := withTy_run h4
        cases hkind : i.kind with
        | bool => rw [hkind] at h5; exact boolcase b rfl (.inl rfl) i hi hkind h5
        | _ => rw [hkind] at h5; exact (fail_run h5).elim
      · by_cases hne : op = .neq
        · subst hne
          obtain ⟨i, hi, h5⟩ := withTy_run h4
          cases hkind : i.kind with
          | bool => rw [hkind] at h5; exact boolcase b rfl (.inr rfl) i hi hkind h5
          | _ => rw [hkind] at h5; exact (fail_run h5).elim
        · have h5 : (valBin op (.bool b) v o.dst).run P cr σ2 = some ((), σ', l4) := by
            cases op <;> first | exact h4 | exact absurd rfl he | exact absurd rfl hne
          cases v with
          | bool b2 => cases op <;> first | exact (fail_run h5).elim | exact absurd rfl he | exact absurd rfl hne
          | _ => exact (fail_run h5).elim
    | _ => exact gen h4 (by intro b hb; cases hb)

theorem op_unOp {o : Oper} {op : UnOp} {T : TypeId} {x : Operand} (ho : o.op = .unOp op T x) : OpOk P Γ o := by
  intro C HT σ a w W cr σ' l next Q h hh hd hr hn
  simp only [opPr, ho, unPr] at hr
  obtain ⟨b, σ1, l1, l2, h1, h2, rfl⟩ := run_bind_some hr
  obtain ⟨rfl, hx, _⟩ := rdV_ok h h1
  split at h2
  · exact wp_value (by simp [execOp, ho, hx, Op.unary]) (setV_val h hh hd rfl h2 hn)
  · exact wp_value (by simp [execOp, ho, hx, Op.unary, Op.intArith]) (setV_val h hh hd rfl (nm_run h2) hn)
  · exact (fail_run h2).elim

end ops
end Go.Vs

namespace Go.Vs

variable {C : Ctx} {σ : St} {a : Act} {w : World} {W : Wit} {P : Program} {cr : CallR} {Γ : Env}

/-! ### Loads and stores, on the concrete side -/

theorem TyOk.agg {t : TypeId} {i : TyI} (h : TyOk P t i) (w : World) : (isAgg t).run P w = .ok (isAggK i.kind) w := by
  obtain ⟨info, d, z, hi, hu, _, _, _, _, hk⟩ := h.ex
  have : (isAgg t).run P w = .ok (isAggD d) w := by
    cases d <;> simp [isAgg, run_underlying hu, isAggD]
  rw [this]
  generalize i.kind = kd at hk
  cases kd with
  | bool => obtain rfl : d = .bool := hk; rfl
  | int k => obtain rfl : d = .int k := hk; rfl
  | string => obtain rfl : d = .string := hk; rfl
  | slice e => obtain rfl : d = .slice e := hk; rfl
  | struct fs => obtain ⟨fields, rfl, _⟩ := hk; rfl
  | other =>
    have h1 : isAggD d = false := hk
    simp [h1, isAggK]

theorem TyOk.sizeOf {t : TypeId} {i : TyI} (h : TyOk P t i) (w : World) : (sizeOf t).run P w = .ok i.size w := by
  obtain ⟨info, d, z, hi, hu, hs, _, _, _, hk⟩ := h.ex
  simp [Go.sizeOf, typeInfo, hi, hs]

theorem TyOk.shape_struct {i : TyI} {fs : List (Nat × Nat × Bool)} (h : i.kind = .struct fs) : i.shape = .agg := by simp [TyI.shape, h]

theorem shape_of_kind (i : TyI) : (i.shape = .agg ∧ isAggK i.kind = true) ∨ (i.shape = .one ∧ isAggK i.kind = false) := by
  unfold TyI.shape
  cases i.kind <;> simp [isAggK]

theorem run_loadAt_cells {T : TypeId} {i : TyI} (h : TyOk P T i) (hsz : szB i = true) {g o : Nat} {cs : List Value} (hlen : cs.length = i.size)
    (hc : ∀ (j : Nat) (v : Value), cs[j]? = some v → w.cell? ⟨g, o + j, none⟩ = some v) :
    (Instr.loadAt T (.pointer (some ⟨g, o, none⟩))).run P w = .ok (shVal i.shape cs) w := by
  have hag := h.agg w
  rcases shape_of_kind i with ⟨h1, h2⟩ | ⟨h1, h2⟩
  · rw [h2] at hag
    have hl : (loadCells ⟨g, o, none⟩ cs.length).run P w = .ok cs.toArray w := run_loadCells_list (P := P) w ⟨g, o, none⟩ cs (fun j v hv => by rw [Addr.add_lit]; exact hc j v hv)
    rw [hlen] at hl
    simp [Instr.loadAt, Instr.sureAddr, loadVar, hag, h.sizeOf w, hl, h1, shVal]
  · rw [h2] at hag
    have : i.size = 1 := by
      unfold szB at hsz
      cases hk : i.kind <;> simp_all [isAggK]
    rw [this] at hlen
    match cs, hlen, hc with
    | [x], _, hc =>
      have h0 := hc 0 x rfl
      simp only [Nat.add_zero] at h0
      simp [Instr.loadAt, Instr.sureAddr, loadVar, hag, h0, h1, shVal]

theorem shVal_cells {s : Shape} (hs : notTup s = true) {vs : List Value} (hl : shapeOk s vs.length) (h1 : ∀ v ∈ vs, v.oneCell' = true) : (shVal s vs).cells.toList = vs := by
  cases s with
  | one =>
    match vs, hl, h1 with
    | [x], _, h1 =>
      have := h1 x (by simp)
      cases x <;> simp_all [shVal, Value.cells, Value.oneCell']
  | agg => simp [shVal, Value.cells]
  | tup l => simp [notTup] at hs
  | und => simp [notTup] at hs

theorem run_storeAt_cells {T : TypeId} {i : TyI} (h : TyOk P T i) {g o : Nat} {cur : Array Value} {t : TypeId} {x : Value} {vs : List Value} (hx : x.cells.toList = vs) (hlen : vs.length = i.size)
    (hg : w.heap[g]? = some (.cells cur t (0, 0))) (hfit : o + vs.length ≤ cur.size) (h1 : ∀ v ∈ vs, v.oneCell' = true) :
    (Instr.storeAt T (.pointer (some ⟨g, o, none⟩)) x).run P w = .ok () (w.setRow g (cur.toList.take o ++ vs ++ cur.toList.drop (o + vs.length)).toArray) := by
  have hst := run_storeCells_at P g o t vs 0 cur w hg (by simpa using hfit) h1
  have hsz : x.cells.size = i.size := by rw [← hlen, ← hx]; simp
  simp only [Nat.add_zero] at hst
  simp [Instr.storeAt, Instr.sureAddr, storeVar, h.sizeOf w, hsz, hx, hst]

theorem Row.cell {g o : Nat} {cs : List Value} (h : Row w g o cs) {j : Nat} {v : Value} (hv : cs[j]? = some v) : w.cell? ⟨g, o + j, none⟩ = some v := by
  obtain ⟨cur, e, fz, hg, hc⟩ := h
  rw [cell_of_row w g (o + j) cur e fz hg]
  rw [← hc, List.getElem?_take] at hv
  split at hv
  · rw [List.getElem?_drop] at hv
    simpa using hv
  · cases hv

/-! ### Views of boxes, of elements -/

theorem viewTV_slice (r : Rs) (ver : Nat × Nat) (tvs : List TV) (off n : Nat) : viewTV r ver off (sliceTV tvs off n) = sliceTV (viewTV r ver 0 tvs) off n := by
  apply List.ext_getElem?
  intro j
  unfold sliceTV
  rw [viewTV_get, List.getElem?_take, List.getElem?_take]
  split
  · rw [List.getElem?_drop, List.getElem?_drop, viewTV_get, Nat.zero_add]
  · rfl

theorem flat_slice {sz : Nat} {el : List AV} {c n : Nat} (hcn : c + n ≤ el.length) : ∀ (l : List (List AV)) (i : Nat), (∀ e ∈ l, e.length = sz) → l[i]? = some el →
    (l.flatten.drop (i * sz + c)).take n = (el.drop c).take n
  | [], i, _, h => by simp at h
  | e0 :: l, 0, hl, hi => by
    simp at hi; subst hi
    simp only [Nat.zero_mul, Nat.zero_add, List.flatten_cons]
    rw [List.drop_append_of_le_length (by omega), List.take_append_of_le_length (by simp; omega)]
  | e0 :: l, i + 1, hl, hi => by
    simp only [List.getElem?_cons_succ] at hi
    have h0 := hl e0 (by simp)
    simp only [List.flatten_cons]
    have e : (i + 1) * sz + c = e0.length + (i * sz + c) := by rw [h0, Nat.add_mul]; omega
    rw [e, List.drop_append]
    simp only [Nat.add_sub_cancel_left]
    rw [List.drop_of_length_le (by omega), List.nil_append]
    exact flat_slice hcn l i (fun e he => hl e (by simp [he])) hi

theorem shVals_length (as : List AV) : (shVals as).length = as.length := by
  induction as with
  | nil => rfl
  | cons b l ih => simp [shVals, ih]

/-- Cells that are shared, as views. -/
theorem view_shVals {S : Nat → Prop} {β : Nat → Option Nat} : ∀ {as : List AV} {vs : List Value}, Rep w β S as vs [] → (∀ b, S b → Sh C σ W w b) → (∀ b g, β b = some g → W.β b = some g) → View C σ W w (shVals as) vs
  | [], vs, h, _, _ => by cases h; trivial
  | x :: as, vs, h, hS, hβ => by
    obtain ⟨v, us, f1, f2, rfl, hf, h1, h2⟩ := Rep.uncons h
    have := List.append_eq_nil_iff.1 hf.symm
    obtain ⟨rfl, rfl⟩ := this
    refine ⟨?_, view_shVals h2 hS hβ⟩
    have h3 := (h1.mono (β' := W.β) (S' := S) (fun b hb => ⟨hb, rfl⟩) (by simp) hβ).shc (S' := Sh C σ W w) hS (by simp)
    show Rep w W.β (Sh C σ W w) [shc x] [v] []
    simpa [shcL] using h3

theorem Rep.sub {S : Nat → Prop} {β : Nat → Option Nat} {as : List AV} {vs : List Value} (h : Rep w β S as vs []) (o n : Nat) : Rep w β S ((as.drop o).take n) ((vs.drop o).take n) [] := by
  obtain ⟨f1, f2, hf, _, h2⟩ := h.take o
  obtain ⟨rfl, rfl⟩ := List.append_eq_nil_iff.1 hf.symm
  obtain ⟨f1, f2, hf, h1, _⟩ := h2.take n
  obtain ⟨rfl, rfl⟩ := List.append_eq_nil_iff.1 hf.symm
  exact h1

theorem NavAt.snoc {g n cap sz i k : Nat} {nl : NF} {els : List (List AV)} {cur : Array Value} {e : TypeId} {el : List AV} {a1 : AV} {y : Value}
    (hg : w.heap[g]? = some (.cells cur e (0, 0))) (hi : els[i]? = some el) (hk : el[k]? = some a1) (hy : cur[i * sz + k]? = some y) : ∀ (p : Path) {a0 : AV} {u : Value},
    NavAt w a0 u p (.sl true nl sz els) (.slice (some ⟨g, 0, none⟩) n cap) → NavAt w a0 u (p ++ [(i, k)]) a1 y
  | [], a0, u, h => by
    obtain ⟨rfl, rfl⟩ := h
    exact ⟨nl, sz, els, g, n, cap, cur, e, el, a1, y, rfl, rfl, hg, hi, hk, hy, rfl, rfl⟩
  | (i', k') :: p, a0, u, h => by
    obtain ⟨nl', sz', els', g', n', cap', cur', e', el', a1', y', h1, h2, h3, h4, h5, h6, h7⟩ := h
    exact ⟨nl', sz', els', g', n', cap', cur', e', el', a1', y', h1, h2, h3, h4, h5, h6, NavAt.snoc hg hi hk hy p h7⟩

theorem elCells_get (r : Rs) (c : Nat) (ver : Nat × Nat) (p : Path) (i : Nat) (l : List AV) (k0 j : Nat) :
    (elCells r c ver p i k0 l)[j]? = l[j]?.map (elOf r c ver p i (k0 + j)) := by
  induction l generalizing k0 j with
  | nil => simp [elCells]
  | cons t l ih =>
    cases j with
    | zero => simp [elCells]
    | succ j =>
      have e : k0 + 1 + j = k0 + (j + 1) := by omega
      simp [elCells, ih, e]

theorem elCells_length (r : Rs) (c : Nat) (ver : Nat × Nat) (p : Path) (i : Nat) (l : List AV) (k0 : Nat) : (elCells r c ver p i k0 l).length = l.length := by
  induction l generalizing k0 with
  | nil => rfl
  | cons t l ih => simp [elCells, ih]

theorem verOk_longer {v ver : Nat × Nat} {p q : Path} (hq : q ≠ []) (h : verOk v ver q = true) : verOk v ver p = true := by
  cases q with
  | nil => exact absurd rfl hq
  | cons x q =>
    obtain ⟨h1, h2⟩ := verOk_cons h
    cases p <;> simp [verOk] <;> omega

theorem loadTV_ok (h : SR C σ a w W) {i : TyI} {t : TV} {z : Value} (ht : TV1 C σ W w t z) {s : Shape} {tvs : List TV} {σ' : St} {l : Log} (hr : (loadTV i t).run P cr σ = some ((s, tvs), σ', l)) :
    σ' = σ ∧ s = i.shape ∧ ∃ g o vs, z = .pointer (some ⟨g, o, none⟩) ∧ vs.length = i.size ∧ (∀ (j : Nat) (v : Value), vs[j]? = some v → w.cell? ⟨g, o + j, none⟩ = some v) ∧ View C σ W w tvs vs := by
  cases t with
  | val b =>
    cases b with
    | bp b off =>
      obtain ⟨l', h1, rfl⟩ := get_run (show (Pr.get (.bx b) _).run P cr σ = _ from hr)
      cases hg : σ.get (.bx b) with
      | mk ver o => cases o with
        | none => rw [hg] at h1; exact (fail_run h1).elim
        | some x =>
          obtain ⟨s0, t0⟩ := x
          rw [hg] at h1
          obtain ⟨hlen, h2⟩ := chk_run h1
          obtain ⟨he, rfl, _⟩ := ret_run h2
          cases he
          cases ht with
          | bp hb tl =>
            rename_i g
            obtain ⟨g', T, hb', hheap⟩ := h.box b ver s0 t0 hg
            rw [hb] at hb'; cases hb'
            have hv := view_ok h hg
            rw [viewTV_slice]
            have hv2 : View C σ' W w (sliceTV (viewTV (.bx b) ver 0 t0) off i.size) (((W.cv (.bx b)).drop off).take i.size) := (hv.drop off).take i.size
            refine ⟨rfl, rfl, g, off, _, rfl, ?_, fun j v hj => ?_, hv2⟩
            · rw [← hv2.length, ← viewTV_slice]
              simpa using hlen
            · rw [List.getElem?_take] at hj
              split at hj
              · rw [List.getElem?_drop] at hj
                rw [cell_of_row w g (off + j) _ _ _ hheap]
                simpa using hj
              · cases hj
    | ep sz els j c =>
      obtain ⟨el, hel, h1⟩ := elt_run (show (Pr.elt els[j]? _).run P cr σ = _ from hr)
      obtain ⟨hlen, h2⟩ := chk_run h1
      obtain ⟨he, rfl, _⟩ := ret_run h2
      cases he
      cases ht with
      | ep hg hrow hsz hi hin tl =>
        rename_i g o cs
        have hln : ((el.drop c).take i.size).length = i.size := by simpa using hlen
        have hcl : c + i.size ≤ el.length ∨ i.size = 0 := by simp at hln; omega
        rcases hcl with hcl | hcl
        · have hfs := flat_slice hcl els j hsz hel
          have hsub := hin.sub (j * sz + c) i.size
          rw [hfs] at hsub
          refine ⟨rfl, rfl, g, o + j * sz + c, _, rfl, ?_, fun m v hm => ?_, view_shVals hsub (fun _ h => h) (by simp)⟩
          · rw [← hsub.length]; exact hln
          · rw [List.getElem?_take] at hm
            split at hm
            · rw [List.getElem?_drop] at hm
              have := hrow.cell hm
              simpa [Nat.add_assoc] using this
            · cases hm
        · rw [hcl]
          exact ⟨rfl, rfl, g, o + j * sz + c, [], rfl, rfl, by simp, by simp [shVals]; trivial⟩
    | cp cells off =>
      obtain ⟨hlen, h2⟩ := chk_run (show (chk _ _).run P cr σ = _ from hr)
      obtain ⟨he, rfl, _⟩ := ret_run h2
      cases he
      cases ht with
      | cp hg hrow hin tl =>
        rename_i g o cs
        have hsub := hin.sub off i.size
        refine ⟨rfl, rfl, g, o + off, _, rfl, ?_, fun m v hm => ?_, view_shVals hsub (fun _ h => h) (by simp)⟩
        · rw [← hsub.length]; simpa using hlen
        · rw [List.getElem?_take] at hm
          split at hm
          · rw [List.getElem?_drop] at hm
            have := hrow.cell hm
            simpa [Nat.add_assoc] using this
          · cases hm
    | _ => exact (fail_run (show (Pr.fail : Pr (Shape × List TV)).run P cr σ = _ from hr)).elim
  | ref r c ver p => exact (fail_run (show (Pr.fail : Pr (Shape × List TV)).run P cr σ = _ from hr)).elim
  | eref r c ver p sz j k =>
    obtain ⟨hz0, hr⟩ := chk_run (show (chk (Nat.blt 0 sz) _).run P cr σ = _ from hr)
    have hz0 : 0 < sz := by simpa using hz0
    obtain ⟨b, σ1, l1, l2, h1, h2, rfl⟩ := run_bind_some hr
    obtain ⟨g, n, cap, hz, hloc⟩ := ht
    rw [erv_pos hz0] at hz
    obtain ⟨rfl, β', f, hb1, hb2, hf, hlv, hrep⟩ := content_ok h h1 hloc
    cases b with
    | sl o nl s0 els =>
      cases o with
      | false => exact (fail_run h2).elim
      | true =>
        obtain ⟨hs0, h3⟩ := chk_run (show (chk (Nat.beq s0 sz) _).run P cr σ1 = _ from h2)
        obtain ⟨el, hel, h4⟩ := elt_run h3
        obtain ⟨hlen, h5⟩ := chk_run h4
        obtain ⟨he, rfl, _⟩ := ret_run h5
        cases he
        have hs1 : s0 = sz := by simpa using hs0
        subst hs1
        have hln : ((el.drop k).take i.size).length = i.size := by simpa using hlen
        have hrep0 := hrep
        cases hrep with
        | owd hnf hg hn hsz hpos hcap hmax hcur hin tl =>
          rename_i cur e fi fp
          have hjl : j < els.length := (List.getElem?_eq_some_iff.1 hel).1
          have hels : el.length = s0 := hsz el (List.mem_of_getElem? hel)
          have hkcell : ∀ m b, m < i.size → el[k + m]? = some b → ∃ y f', cur[j * s0 + (k + m)]? = some y ∧ Rep w (fun _ => none) (Sh C σ' W w) [b] [y] f' := by
            intro m b hm hb
            have hkl : k + m < s0 := by rw [← hels]; exact (List.getElem?_eq_some_iff.1 hb).1
            obtain ⟨y, g1, gc, g2, hy, _, hone, _⟩ := hin.at (flat_get hkl hb els j hsz hel)
            rw [List.getElem?_take] at hy
            split at hy
            · exact ⟨y, gc, by simpa using hy, hone⟩
            · cases hy
          refine ⟨rfl, rfl, g, j * s0 + k, ((cur.toList.drop (j * s0 + k)).take i.size), hz, ?_, fun m v hm => ?_, ?_⟩
          · rcases Nat.eq_zero_or_pos i.size with h0 | h0
            · simp [h0]
            · have hkb : k + i.size ≤ el.length := by simp at hln; omega
              simp only [List.length_take, List.length_drop, Array.length_toList]
              have : (j + 1) * s0 ≤ cap * s0 := Nat.mul_le_mul_right _ (by omega)
              rw [Nat.add_mul] at this
              omega
          · rw [List.getElem?_take] at hm
            split at hm
            · rw [List.getElem?_drop] at hm
              rw [cell_of_row w g _ _ _ _ hg]
              simpa [Nat.add_assoc] using hm
            · cases hm
          · refine .of_get ?_ fun m t v ht hv => ?_
            · rw [elCells_length, hln]
              rcases Nat.eq_zero_or_pos i.size with h0 | h0
              · simp [h0]
              · have hkb : k + i.size ≤ el.length := by simp at hln; omega
                simp only [List.length_take, List.length_drop, Array.length_toList]
                have : (j + 1) * s0 ≤ cap * s0 := Nat.mul_le_mul_right _ (by omega)
                rw [Nat.add_mul] at this
                omega
            · rw [elCells_get, Option.map_eq_some_iff] at ht
              obtain ⟨b, hb, rfl⟩ := ht
              rw [List.getElem?_take] at hb hv
              split at hb
              · rename_i hm
                rw [if_pos hm, List.getElem?_drop] at hv
                rw [List.getElem?_drop] at hb
                obtain ⟨y, f', hy, hone⟩ := hkcell m b hm hb
                have hvy : v = y := by
                  have h8 : cur[j * s0 + (k + m)]? = some v := by simpa [Nat.add_assoc] using hv
                  rw [hy] at h8; cases h8; rfl
                subst hvy
                unfold elOf
                cases ho : b.owns with
                | false =>
                  have := hone.fp_nil ho
                  subst this
                  exact hone.mono (fun _ h => ⟨h, rfl⟩) (by simp) (by simp)
                | true =>
                  refine ⟨hone.oneCell, hloc.1, fun v' s' tvs' hg' hv' => ?_⟩
                  have hv2 := verOk_longer (p := p) (by simp) hv'
                  obtain ⟨u, hu, hcase⟩ := hloc.2 v' s' tvs' hg' hv2
                  obtain ⟨v0, s2, tvs2, a0, l0, hg0, _, ha0, hnav⟩ := content_run h1
                  rw [hg'] at hg0; cases hg0
                  refine ⟨u, hu, .inr ⟨by simp, a0, b, ha0, ?_⟩⟩
                  have hnavat : NavAt w a0 u p (.sl true nl s0 els) (.slice (some ⟨g, 0, none⟩) n cap) := by
                    rcases hcase with ⟨rfl, hyu⟩ | ⟨hp, a1, a', ha1, hn'⟩
                    · obtain ⟨h9, _, _⟩ := ret_run (show (Pr.ret a0).run P cr σ' = _ by simpa [nav] using hnav)
                      exact ⟨h9.symm, hyu.symm⟩
                    · rw [ha0] at ha1; cases ha1
                      have hat : (tvs'.map own)[c]? = some a0 := by simp [ha0, own]
                      obtain ⟨u', f1, fc, f2, hu', hff, honec, _⟩ := (h.rep r v' s' tvs' hg').at hat
                      rw [hu] at hu'; cases hu'
                      obtain ⟨_, hh⟩ := nav_ok (x := Value.slice (some ⟨g, 0, none⟩) n cap) p hnav honec (fun _ _ => trivial)
                      obtain ⟨h9, _⟩ := hh hn'
                      rw [h9] at hn'
                      exact hn'
                  exact NavAt.snoc hg hel hb hy p hnavat
              · cases hb
    | _ => exact (fail_run h2).elim

theorem op_load (hΓ : EnvOk P Γ) {o : Oper} {T : TypeId} {x : Operand} (ho : o.op = .load T x) : OpOk P Γ o := by
  intro C HT σ a w W cr σ' l next Q h hh hd hr hn
  simp only [opPr, ho] at hr
  obtain ⟨i, hi, h1⟩ := withTy_run hr
  obtain ⟨hsz, h2⟩ := chk_run h1
  obtain ⟨t, σ1, l1, l2, h3, h4, rfl⟩ := run_bind_some h2
  obtain ⟨rfl, ht⟩ := rdOne_ok h h3
  obtain ⟨⟨s, tvs⟩, σ2, l3, l4, h5, h6, rfl⟩ := run_bind_some h4
  obtain ⟨rfl, rfl, g, off, vs, hx, hlen, hc, hv⟩ := loadTV_ok h ht h5
  have hs : shapeOk i.shape tvs.length := by
    rw [hv.length, hlen]
    rcases shape_of_kind i with ⟨h7, h8⟩ | ⟨h7, h8⟩
    · rw [h7]; trivial
    · rw [h7]
      show i.size = 1
      unfold szB at hsz
      cases hk : i.kind <;> simp_all [isAggK]
  obtain ⟨W', h7, h8⟩ := setSl_view h hh hd hv hs h6
  refine wp_value (v := shVal i.shape vs) (w' := w) ?_ (hn _ _ W' h7 h8 (put_size _ _ _))
  simp [execOp, ho, hx, run_loadAt_cells (hΓ T i hi) hsz hlen hc]

end Go.Vs

namespace Go.Vs

variable {C : Ctx} {σ : St} {a : Act} {w : World} {W : Wit} {P : Program} {cr : CallR} {Γ : Env}

/-! ### The content at a path, changed -/

theorem flat_set {sz k : Nat} {el : List AV} {b : AV} (hk : k < sz) : ∀ (l : List (List AV)) (i : Nat), (∀ e ∈ l, e.length = sz) → l[i]? = some el →
    (l.set i (el.set k b)).flatten = l.flatten.set (i * sz + k) b
  | [], i, _, h => by simp at h
  | e0 :: l, 0, hl, hi => by
    simp at hi; subst hi
    have h0 := hl e0 (by simp)
    simp only [List.set_cons_zero, List.flatten_cons, Nat.zero_mul, Nat.zero_add]
    rw [List.set_append_left _ _ (by omega)]
  | e0 :: l, i + 1, hl, hi => by
    simp only [List.getElem?_cons_succ] at hi
    have h0 := hl e0 (by simp)
    simp only [List.set_cons_succ, List.flatten_cons]
    have e : (i + 1) * sz + k = e0.length + (i * sz + k) := by rw [h0, Nat.add_mul]; omega
    rw [e, List.set_append_right _ _ (by omega), flat_set hk l i (fun e he => hl e (by simp [he])) hi]
    congr 2
    omega

theorem flat_splice {sz k : Nat} {el news : List AV} (hk : k + news.length ≤ el.length) : ∀ (l : List (List AV)) (i : Nat), (∀ e ∈ l, e.length = sz) → l[i]? = some el →
    (l.set i (spliceAV el k news)).flatten = l.flatten.take (i * sz + k) ++ news ++ l.flatten.drop (i * sz + k + news.length)
  | [], i, _, h => by simp at h
  | e0 :: l, 0, hl, hi => by
    simp at hi; subst hi
    simp only [List.set_cons_zero, List.flatten_cons, Nat.zero_mul, Nat.zero_add, spliceAV]
    rw [List.take_append_of_le_length (by omega), List.drop_append_of_le_length (by omega)]
    simp [List.append_assoc]
  | e0 :: l, i + 1, hl, hi => by
    simp only [List.getElem?_cons_succ] at hi
    have h0 := hl e0 (by simp)
    simp only [List.set_cons_succ, List.flatten_cons]
    rw [flat_splice hk l i (fun e he => hl e (by simp [he])) hi]
    have e1 : (i + 1) * sz + k = e0.length + (i * sz + k) := by rw [h0, Nat.add_mul]; omega
    have e2 : (i + 1) * sz + k + news.length = e0.length + (i * sz + k + news.length) := by rw [h0, Nat.add_mul]; omega
    rw [e2, e1, List.take_append, List.drop_append, List.take_of_length_le (l := e0) (by omega), List.drop_of_length_le (l := e0) (by omega)]
    simp [List.append_assoc]

theorem set_self {α : Type} {l : List α} {j : Nat} {x : α} (h : l[j]? = some x) : l.set j x = l := by
  apply List.ext_getElem?
  intro i
  rw [List.getElem?_set]
  split
  · rename_i hj; subst hj
    split
    · exact h.symm
    · rename_i hj2; rw [List.getElem?_eq_none (by omega)]
  · rfl

theorem navLift {S S' M N : Nat → Prop} {fa : List Nat} {x : Value} {f : AV → Pr AV} {w' : World} {al0 : AV} (hS : ∀ b, S b → S' b ∧ w'.heap[b]? = w.heap[b]?) : ∀ (p : Path) {β : Nat → Option Nat} {a0 a' : AV} {u : Value} {fc : List Nat} {σ' : St} {l : Log},
    (navSet a0 p f).run P cr σ = some (a', σ', l) → Rep w β S [a0] [u] fc → NavAt w a0 u p al0 x → fc.Nodup → (∀ b ∈ fa, b ∉ fc) → (∀ b ∈ fc, ¬ M b → N b ∧ w'.heap[b]? = w.heap[b]?) →
    (∀ {β' : Nat → Option Nat} {fl : List Nat} {σ1 : St} {l1 : Log} {al' : AV}, (f al0).run P cr σ = some (al', σ1, l1) → Rep w β' S [al0] [x] fl → fl.Nodup → (∀ b ∈ fl, b ∈ fc) →
      σ1 = σ ∧ (∀ b, M b → b ∈ fl) ∧ ∃ fl', Rep w' β' S' [al'] [x] fl' ∧ fl'.Nodup ∧ ∀ b ∈ fl', (b ∈ fl ∨ b ∈ fa) ∧ N b) →
    σ' = σ ∧ (∀ b, M b → b ∈ fc) ∧ ∃ f', Rep w' β S' [a'] [u] f' ∧ f'.Nodup ∧ ∀ b ∈ f', (b ∈ fc ∨ b ∈ fa) ∧ N b
  | [], β, a0, a', u, fc, σ', l, hr, hrep, hn, hnd, _, _, hleaf => by
    obtain ⟨rfl, rfl⟩ := hn
    exact hleaf (show (f a0).run P cr σ = _ by cases a0 <;> exact hr) hrep hnd (fun _ h => h)
  | (i, k) :: p, β, a0, a', u, fc, σ', l, hr, hrep, hn, hnd, hfa, hM, hleaf => by
    obtain ⟨nf, sz, els, g, n, cap, cur, e, el, a1, y, rfl, rfl, hg, hi, hk, hy, hrest⟩ := hn
    obtain ⟨el', hel, h1⟩ := elt_run (show (Pr.elt els[i]? _).run P cr σ = _ from hr)
    rw [hi] at hel; cases hel
    rw [hk] at h1
    simp only at h1
    obtain ⟨a1', σ1, l1, l2, h2, h3, rfl⟩ := run_bind_some (show (navSet a1 p f >>= fun a' => Pr.ret (AV.sl true nf sz (els.set i (el.set k a')))).run P cr σ = _ from h1)
    obtain ⟨rfl, rfl, _⟩ := ret_run h3
    cases hrep with
    | owd hnf hg2 hn2 hsz hpos hcap hmax hcur hin t =>
      rename_i fi fp
      cases t
      rw [hg] at hg2; cases hg2
      have hkl : k < sz := by rw [← hsz el (List.mem_of_getElem? hi)]; exact (List.getElem?_eq_some_iff.1 hk).1
      have hflat := flat_get hkl hk els i hsz hi
      obtain ⟨y', f1, fcc, f2, hy', hff, hone, ht1, ht2⟩ := hin.at hflat
      have hil : i < els.length := (List.getElem?_eq_some_iff.1 hi).1
      have hm : i * sz + k < els.length * sz := by
        have : (i + 1) * sz ≤ els.length * sz := Nat.mul_le_mul_right _ hil
        rw [Nat.add_mul] at this; omega
      have hyy : (cur.toList.take (n * sz))[i * sz + k]? = some y := by
        rw [List.getElem?_take, if_pos (by rw [← hn2]; exact hm)]
        simpa using hy
      rw [hyy] at hy'; cases hy'
      simp only [List.append_nil] at hnd hfa hM hleaf ⊢
      have hnd2 := hnd
      rw [List.nodup_cons, hff] at hnd2
      obtain ⟨hgn, hfin⟩ := hnd2
      obtain ⟨hn12, hncc, hdcc⟩ := nodup_mid hfin
      have hsub : ∀ b ∈ fcc, b ∈ g :: fi := fun b hb => by rw [hff]; simp [hb]
      obtain ⟨rfl, hMc, f', hrep', hnd', hf'⟩ := navLift hS p h2 hone hrest hncc (fun b hb hb2 => hfa b hb (hsub b hb2)) (fun b hb => hM b (hsub b hb))
        (fun hf hr hn hs => hleaf hf hr hn fun b hb => hsub b (hs b hb))
      have hfl : ∀ b ∈ g :: fi, b < w.heap.size := by
        intro b hb
        rcases List.mem_cons.1 hb with rfl | hb
        · exact (Array.getElem?_eq_some_iff.1 hg).1
        · exact hin.fp_lt b hb
      have hkeep : ∀ b ∈ g :: fi, b ∉ fcc → w'.heap[b]? = w.heap[b]? := fun b hb hb2 => (hM b hb fun hm => hb2 (hMc b hm)).2
      have hkN : ∀ b ∈ g :: fi, b ∉ fcc → N b := fun b hb hb2 => (hM b hb fun hm => hb2 (hMc b hm)).1
      have hgcc : g ∉ fcc := fun hb => hgn (by simp [hb])
      have hc : i * sz + k < els.flatten.length := by rw [flatten_length hsz]; exact hm
      have hset := Rep.set (w := w') (β := fun _ => none) (S := S') hc hin.length
        (ht1.mono hS (fun b hb => hkeep b (by rw [hff]; simp [hb]) (hdcc b (by simp [hb]))) (fun _ _ h => h)) hrep'
        (ht2.mono hS (fun b hb => hkeep b (by rw [hff]; simp [hb]) (hdcc b (by simp [hb]))) (fun _ _ h => h))
      rw [set_self hyy, ← flat_set hkl els i hsz hi] at hset
      refine ⟨rfl, fun b hb => hsub b (hMc b hb), g :: (f1 ++ f' ++ f2), ?_, ?_, ?_⟩
      · have hfix := Rep.owd (w := w') (β := β) (S := S') (sz := sz) (g := g) (n := n) (cap := cap) (els := els.set i (el.set k a1')) (cur := cur) (e := e) (fi := f1 ++ f' ++ f2)
          hnf (by rw [hkeep g (by simp) hgcc]; exact hg) (by simpa using hn2) ?_ hpos hcap hmax hcur hset .nil
        · simpa using hfix
        · intro e' he'
          rcases List.mem_or_eq_of_mem_set he' with h5 | h5
          · exact hsz e' h5
          · rw [h5, List.length_set]; exact hsz el (List.mem_of_getElem? hi)
      · rw [List.nodup_cons]
        refine ⟨?_, ?_⟩
        · intro hb
          simp only [List.mem_append] at hb hgn
          rcases hb with (hb | hb) | hb
          · exact hgn (.inl (.inl hb))
          · rcases (hf' g hb).1 with h5 | h5
            · exact hgn (.inl (.inr h5))
            · exact hfa g h5 (by simp)
          · exact hgn (.inr hb)
        · simp only [List.nodup_append, List.mem_append] at hn12 ⊢
          obtain ⟨hx1, hx2, hx3⟩ := hn12
          refine ⟨⟨hx1, hnd', fun b hb b2 hb2 he => ?_⟩, hx2, fun b hb b2 hb2 he => ?_⟩
          · subst he
            rcases (hf' b hb2).1 with h5 | h5
            · exact hdcc b (by simp [hb]) h5
            · exact hfa b h5 (by rw [hff]; simp [hb])
          · subst he
            rcases hb with hb | hb
            · exact hx3 b hb b hb2 rfl
            · rcases (hf' b hb).1 with h5 | h5
              · exact hdcc b (by simp [hb2]) h5
              · exact hfa b h5 (by rw [hff]; simp [hb2])
      · intro b hb
        refine ⟨?_, ?_⟩
        rotate_left
        · simp only [List.mem_cons, List.mem_append] at hb
          rcases hb with rfl | (hb | hb) | hb
          · exact hkN _ (by simp) hgcc
          · exact hkN b (by rw [hff]; simp [hb]) (hdcc b (by simp [hb]))
          · exact (hf' b hb).2
          · exact hkN b (by rw [hff]; simp [hb]) (hdcc b (by simp [hb]))
        simp only [List.mem_cons, List.mem_append] at hb ⊢
        rw [hff]
        simp only [List.mem_append]
        rcases hb with rfl | (hb | hb) | hb
        · exact .inl (.inl rfl)
        · exact .inl (.inr (.inl (.inl hb)))
        · rcases (hf' b hb).1 with h5 | h5
          · exact .inl (.inr (.inl (.inr h5)))
          · exact .inr h5
        · exact .inl (.inr (.inr hb))

theorem anyOwns_nil {S : Nat → Prop} {β : Nat → Option Nat} : ∀ {as : List AV} {vs : List Value} {f : List Nat}, Rep w β S as vs f → anyOwns as = false → f = []
  | [], vs, f, h, _ => by cases h; rfl
  | b :: as, vs, f, h, ho => by
    simp only [anyOwns, Bool.or_eq_false_iff] at ho
    obtain ⟨v, us, f1, f2, rfl, rfl, h1, h2⟩ := Rep.uncons h
    rw [h1.fp_nil ho.1, anyOwns_nil h2 ho.2]
    rfl

/-- The leaf: cells of one element are laid anew. -/
theorem storeEl_ok {S S' : Nat → Prop} {sz j k : Nat} {avs : List AV} {vs : List Value} {fa : List Nat} {al al' : AV} {g n cap : Nat} {fl : List Nat} {β' : Nat → Option Nat} {σ1 : St} {l1 : Log}
    (hS : ∀ b, S b → S' b) (hSg : ¬ S g) (hr : (storeEl sz j k avs al).run P cr σ = some (al', σ1, l1)) (hrep : Rep w β' S [al] [.slice (some ⟨g, 0, none⟩) n cap] fl) (hnd : fl.Nodup)
    (havs : Rep w (fun _ => none) S avs vs fa) (hna : fa.Nodup) (hfa : ∀ b ∈ fa, b ∉ fl) :
    σ1 = σ ∧ g ∈ fl ∧ ∃ cur e, w.heap[g]? = some (.cells cur e (0, 0)) ∧ j * sz + k + vs.length ≤ cur.size ∧
      ∃ fl', Rep (w.setRow g (cur.toList.take (j * sz + k) ++ vs ++ cur.toList.drop (j * sz + k + vs.length)).toArray) β' S' [al'] [.slice (some ⟨g, 0, none⟩) n cap] fl' ∧ fl'.Nodup ∧ ∀ b ∈ fl', b ∈ fl ∨ b ∈ fa := by
  cases al with
  | sl o nl s els =>
    cases o with
    | false => exact (fail_run (show (Pr.fail : Pr AV).run P cr σ = _ from hr)).elim
    | true =>
      obtain ⟨hs, h1⟩ := chk_run (show (chk (Nat.beq s sz) _).run P cr σ = _ from hr)
      obtain ⟨el, hel, h2⟩ := elt_run h1
      obtain ⟨hb, h3⟩ := chk_run h2
      obtain ⟨rfl, rfl, _⟩ := ret_run h3
      have hs1 : s = sz := by simpa using hs
      subst hs1
      have hb1 : k + avs.length ≤ el.length := by simpa using hb
      cases hrep with
      | owd hnf hg hn hsz hpos hcap hmax hcur hin t =>
        rename_i cur e fi fp
        cases t
        have hjl : j < els.length := (List.getElem?_eq_some_iff.1 hel).1
        have hels : el.length = s := hsz el (List.mem_of_getElem? hel)
        have hvl : avs.length = vs.length := havs.length
        have hmj : (j + 1) * s ≤ els.length * s := Nat.mul_le_mul_right _ hjl
        rw [Nat.add_mul] at hmj
        have hmq : j * s + k + avs.length ≤ els.length * s := by omega
        have hnc : n * s ≤ cap * s := Nat.mul_le_mul_right _ hcap
        have hfit : j * s + k + vs.length ≤ cur.size := by rw [hn] at hmq; omega
        refine ⟨rfl, by simp, cur, e, hg, hfit, ?_⟩
        obtain ⟨f1, fr, hf1, hr1, hr2⟩ := hin.take (j * s + k)
        obtain ⟨fm, f2, hf2, hr3, hr4⟩ := hr2.take avs.length
        rw [flat_slice hb1 els j hsz hel] at hr3
        subst hf2
        rw [List.drop_drop] at hr4
        rw [List.drop_drop] at hr4
        subst hf1
        simp only [List.append_nil, List.nodup_cons, List.mem_cons] at hnd hfa
        have hgo : ∀ b, b ≠ g → (w.setRow g (cur.toList.take (j * s + k) ++ vs ++ cur.toList.drop (j * s + k + vs.length)).toArray).heap[b]? = w.heap[b]? := fun b hb => setRow_other w g b _ hb
        have hSw : ∀ b, S b → S' b ∧ (w.setRow g (cur.toList.take (j * s + k) ++ vs ++ cur.toList.drop (j * s + k + vs.length)).toArray).heap[b]? = w.heap[b]? := fun b hb => ⟨hS b hb, hgo b fun he => hSg (he ▸ hb)⟩
        have hne1 : ∀ b ∈ f1, b ≠ g := fun b hb he => hnd.1 (by rw [← he]; simp [hb])
        have hne2 : ∀ b ∈ f2, b ≠ g := fun b hb he => hnd.1 (by rw [← he]; simp [hb])
        have hnea : ∀ b ∈ fa, b ≠ g := fun b hb he => hfa b hb (.inl he)
        have hnew := ((hr1.mono hSw (fun b hb => hgo b (hne1 b hb)) (fun _ _ h => h)).append (havs.mono hSw (fun b hb => hgo b (hnea b hb)) (fun _ _ h => h))).append (hr4.mono hSw (fun b hb => hgo b (hne2 b hb)) (fun _ _ h => h))
        have htk : ∀ (L : List Value) (N : Nat), j * s + k + vs.length ≤ N → N ≤ L.length →
            (L.take (j * s + k) ++ vs ++ L.drop (j * s + k + vs.length)).take N = (L.take N).take (j * s + k) ++ vs ++ (L.take N).drop (j * s + k + vs.length) := by
          intro L N h1 h2
          have hA : (L.take (j * s + k) ++ vs).length = j * s + k + vs.length := by simp; omega
          have e1 : min (j * s + k) N = j * s + k := by omega
          rw [List.take_append (l₁ := L.take (j * s + k) ++ vs), List.take_of_length_le (l := L.take (j * s + k) ++ vs) (by omega), List.take_take, e1, List.drop_take, hA]
        have hlen2 : n * s ≤ cur.toList.length := by simp; omega
        refine ⟨g :: (f1 ++ fa ++ f2), ?_, ?_, ?_⟩
        · have hfix := Rep.owd (w := w.setRow g (cur.toList.take (j * s + k) ++ vs ++ cur.toList.drop (j * s + k + vs.length)).toArray) (β := β') (S := S') (sz := s) (g := g) (n := n) (cap := cap) (els := els.set j (spliceAV el k avs))
            (cur := (cur.toList.take (j * s + k) ++ vs ++ cur.toList.drop (j * s + k + vs.length)).toArray) (e := e) (fi := f1 ++ fa ++ f2)
            hnf (setRow_heap w g cur _ e (0, 0) hg) (by simpa using hn) ?_ hpos hcap hmax ?_ ?_ .nil
          · simpa using hfix
          · intro e' he'
            rcases List.mem_or_eq_of_mem_set he' with h5 | h5
            · exact hsz e' h5
            · rw [h5]; simp [spliceAV]; omega
          · simp; omega
          · rw [flat_splice hb1 els j hsz hel]
            have h6 := htk cur.toList (n * s) (by rw [← hn]; omega) hlen2

            rw [h6]
            have h7 : j * s + k + avs.length = j * s + k + vs.length := by omega
            rw [h7] at hr4 ⊢
            simpa [h7] using hnew
        · rw [List.nodup_cons]
          obtain ⟨hg1, hfi⟩ := hnd
          simp only [List.mem_append, List.nodup_append] at hg1 hfi ⊢
          refine ⟨fun hb => ?_, ⟨hfi.1, hna, fun b hb b2 hb2 he => ?_⟩, hfi.2.1.2.1, fun b hb b2 hb2 he => ?_⟩
          · rcases hb with (hb | hb) | hb
            · exact hg1 (.inl hb)
            · exact hnea g hb rfl
            · exact hg1 (.inr (.inr hb))
          · subst he; exact hfa b hb2 (.inr (by simp [hb]))
          · subst he
            rcases hb with hb | hb
            · exact hfi.2.2 b hb b (.inr hb2) rfl
            · exact hfa b hb (.inr (by simp [hb2]))
        · intro b hb
          simp only [List.mem_cons, List.mem_append, List.append_nil] at hb ⊢
          rcases hb with rfl | (hb | hb) | hb
          · exact .inl (.inl rfl)
          · exact .inl (.inr (.inl hb))
          · exact .inr hb
          · exact .inl (.inr (.inr (.inr hb)))
  | _ => exact (fail_run (show (Pr.fail : Pr AV).run P cr σ = _ from hr)).elim

end Go.Vs
