/- Contracts by the kinds of their arguments; loops by the kinds of their slots. -/
import Derived.Test.YtaiopbdbnellhaaR1
namespace Go.OAI
set_option linter.unusedVariables false

/-- Cells that are handed over: data that are only read; a slice with its memory; a slice of slices with theirs. -/
inductive CK where
  | ro (T : Ty) | sl (T : Ty) | mat (T : Ty)
@[reducible] def CK.den : CK → Type
  | .ro T => T.den | .sl T => List T.den | .mat T => List (List T.den)
@[reducible] def CK.dens : List CK → Type
  | [] => Unit
  | c :: r => match r with
    | [] => c.den
    | _ :: _ => c.den × CK.dens r
def CK.out : (c : CK) → c.den → List AVal
  | .ro T, x => T.flat x | .sl T, l => [.osl T l] | .mat T, l => [.omat T l]
def CK.outs : (cs : List CK) → CK.dens cs → List AVal
  | [], _ => []
  | [c], x => c.out x
  | c :: d :: r, x => c.out x.1 ++ CK.outs (d :: r) x.2
def CK.inn : (c : CK) → List AVal → Option (c.den × List AVal)
  | .ro T, cs => T.unflat cs
  | .sl T, .osl U l :: r => if h : U = T then some (Ty.castL h l, r) else none
  | .mat T, .omat U l :: r => if h : U = T then some (h ▸ l, r) else none
  | _, _ => none
def CK.inns : (cs : List CK) → List AVal → Option (CK.dens cs × List AVal)
  | [], vs => some ((), vs)
  | [c], vs => c.inn vs
  | c :: d :: r, vs => match c.inn vs with
    | some (x, vs') => match CK.inns (d :: r) vs' with
      | some (y, vs'') => some ((x, y), vs'')
      | none => none
    | none => none

/-- An argument or a result: one cell; a struct; a pointer to a struct. -/
inductive PK where
  | one (c : CK) | agg (cs : List CK) | box (cs : List CK) | gone
@[reducible] def PK.den : PK → Type
  | .one c => c.den | .agg cs => CK.dens cs | .box cs => CK.dens cs | .gone => Unit
def PK.out : (p : PK) → p.den → AVal
  | .one c, x => (c.out x).headD .undef | .agg cs, x => .agg (CK.outs cs x) | .box cs, x => .obox (CK.outs cs x) | .gone, _ => .undef
def oneOf {α : Type} : Option (α × List AVal) → Option α
  | some (x, []) => some x
  | _ => none
def PK.inn : (p : PK) → AVal → Option p.den
  | .one c, v => oneOf (c.inn [v])
  | .agg cs, .agg vs => oneOf (CK.inns cs vs)
  | .box cs, .obox vs => oneOf (CK.inns cs vs)
  | _, _ => none
@[reducible] def PK.dens : List PK → Type
  | [] => Unit
  | c :: r => match r with
    | [] => c.den
    | _ :: _ => c.den × PK.dens r
def PK.outs : (cs : List PK) → PK.dens cs → List AVal
  | [], _ => []
  | [c], x => [c.out x]
  | c :: d :: r, x => c.out x.1 :: PK.outs (d :: r) x.2
def PK.inns : (cs : List PK) → List AVal → Option (PK.dens cs)
  | [], [] => some ()
  | [c], [v] => c.inn v
  | c :: d :: r, v :: vs => match c.inn v with
    | some x => match PK.inns (d :: r) vs with
      | some y => some (x, y)
      | none => none
    | none => none
  | _, _ => none
/-- Handed over with memory, though it be a slice alone. -/
def PK.owned : PK → Bool
  | .one (.ro _) => false
  | .one _ => true
  | .agg cs => cs.any fun c => match c with | .ro _ => false | _ => true
  | .box _ | .gone => false
/-- A contract: arguments ps; results and what comes back rs, nr of them results. -/
def mkC (ps : List PK) (nr : Nat) (rs : List PK) (G : PK.dens ps → Option (PK.dens rs)) : Callee :=
  { own := ps.map PK.owned, X := PK.dens ps, Y := PK.dens rs, inn := PK.inns ps, G := G, out := fun y => (tupOf ((PK.outs rs y).take nr), (PK.outs rs y).drop nr) }
end Go.OAI
