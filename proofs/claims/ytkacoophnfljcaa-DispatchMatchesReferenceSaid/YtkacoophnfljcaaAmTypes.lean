/- The type table that the abstract machine uses, reckoned from the program's own. -/
import Derived.Test.YtkacoophnfljcaaAmEval
set_option linter.all false
namespace Go.AM

def tyOf (P : Program) : Nat → TypeId → Option Ty
  | 0, _ => none
  | n + 1, t => match P.underlying t with
    | some (.int k) => some (.int k)
    | some .bool => some .bool
    | some .string => some .str
    | some (.slice e) => (tyOf P n e).map .slice
    | some (.func ps rs _) => match ps.toList.map (tyOf P n), rs.toList.map (tyOf P n) with
      | [some (.pair a b)], [some r] => some (.fn1 (.pair a b) r)
      | [some (.pair a b), some c], [some r] => match Ty.same (.pair a b) c with
        | some _ => some (.fn2 (.pair a b) r)
        | none => none
      | _, _ => none
    | some (.struct fs) => tyL (fs.toList.map fun f => tyOf P n f.type)
    | some (.array len e) => tyL (List.replicate len (tyOf P n e))
    | _ => none
where
  tyL : List (Option Ty) → Option Ty
    | [] => some .unit
    | [t] => t
    | t :: r => match t, tyL r with
      | some a, some b => some (.pair a b)
      | _, _ => none

/-- A plain value as an abstract one. -/
def ofVal : Value → Option AV
  | .int k n => if k.wrap n = n then some (.int k n) else none
  | .bool b => some (.bool b)
  | .string s => if s.size = 0 then some (.str s) else none
  | .slice none 0 0 => some .nilsl
  | .pointer none => some .nilptr
  | .nilFunc => some .nilfn
  | .map none => some (.ext .nilm)
  | _ => none

def ofVals : List Value → Option (List AV)
  | [] => some []
  | v :: r => match ofVal v, ofVals r with
    | some a, some l => some (a :: l)
    | _, _ => none

def ofZero : Value → Option AV
  | .agg cs => (ofVals cs.toList).map .agg
  | v => ofVal v

def isAggOf (P : Program) (t : TypeId) : Bool :=
  match P.underlying t with
  | some (.struct _) => true
  | some (.array _ _) => true
  | _ => false

def tdMap (P : Program) (kt et : TypeId) : TD :=
  match P.underlying kt, tyOf P 20 et, P.info? et with
  | some (.int k), some v, some i => match i.zero.bind ofZero with
    | some z => .map (.int k) v z
    | none => .other
  | _, _, _ => .other

theorem tdMap_no {P : Program} {kt et : TypeId} {x : TD} (h : tdMap P kt et = x) (h1 : x ≠ .other) (h2 : ∀ k v z, x ≠ .map k v z) : False := by
  unfold tdMap at h
  split at h
  · split at h
    · exact h2 _ _ _ h.symm
    · exact h1 h.symm
  · exact h1 h.symm

def tdOf (P : Program) (t : TypeId) : TD :=
  match P.underlying t with
  | some (.int k) => .int k
  | some .bool => .bool
  | some .string => .str
  | some (.struct fs) => if fs.toList.all fun f => (P.info? f.type).isSome then .struct (fs.toList.map fun f => (f.offset, P.cellsOf f.type)) else .other
  | some (.array n e) => if (P.info? e).isSome && (P.underlying e).isSome then .arr n (P.cellsOf e) (isAggOf P e) else .other
  | some (.slice e) => match tyOf P 20 e, P.info? e with
    | some ty, some i => match i.zero.bind ofZero with
      | some z => .slice ty i.size i.bytes z.cells
      | none => .other
    | _, _ => .other
  | some (.pointer _) => .ptr
  | some (.func _ _ _) => .fn
  | some (.map kt et) => tdMap P kt et
  | _ => .other

/-- A type whose values '==' compares cell by cell. -/
def eqOk (P : Program) : Nat → TypeId → Option Ty
  | 0, _ => none
  | n + 1, t => match P.underlying t with
    | some (.int k) => some (.int k)
    | some .bool => some .bool
    | some (.struct fs) => if P.stoodInHeld t then none else eqFs (eqOk P n) 0 fs.toList
    | _ => none
where
  eqFs (f : TypeId → Option Ty) : Nat → List Field → Option Ty
    | _, [] => some .unit
    | off, [x] => if x.name ≠ "_" ∧ x.offset = off then match f x.type with
        | some a => if a.size = P.cellsOf x.type then some a else none
        | none => none
      else none
    | off, x :: r => if x.name ≠ "_" ∧ x.offset = off then match f x.type, eqFs f (off + P.cellsOf x.type) r with
        | some a, some b => if a.size = P.cellsOf x.type then some (.pair a b) else none
        | _, _ => none
      else none

def tiOf (P : Program) (t : TypeId) : Option TI :=
  match P.underlying t, P.info? t with
  | some _, some i => match i.zero with
    | some z => (ofZero z).map fun a => ⟨i.size, isAggOf P t, a, tdOf P t, if P.eqGuardType P.depth t then none else eqOk P 20 t⟩
    | none => none
  | _, _ => none

/-- The table fits the program. -/
def TTok (P : Program) (tt : TT) : Prop := P = PG ∧ ∀ t ti, look tt.1 t = some ti → tiOf P t = some ti

def ttAll (P : Program) : List (Nat × TI) → Prop
  | [] => True
  | (t, ti) :: r => tiOf P t = some ti ∧ ttAll P r

theorem TTok.of_all {b : Bool × List (Nat × Bool)} : ∀ {tt : List (Nat × TI)}, ttAll PG tt → TTok PG (tt, b)
  | [], _ => ⟨rfl, fun _ _ h => by simp [look] at h⟩
  | (k, x) :: r, ⟨h1, h2⟩ => ⟨rfl, fun t ti h => by
    simp only [look] at h
    split at h
    · rename_i he
      obtain rfl : k = t := Nat.eq_of_beq_eq_true he
      cases h
      exact h1
    · exact (TTok.of_all (b := b) h2).2 t ti h⟩

end Go.AM
