/- The evaluator of the translated code over typed data. -/
import Derived.Calls
import Derived.Laws.Sem
import Derived.Orders
import Derived.KernelRfl
import Derived.Laws.BytesArg
import Derived.Laws.Concat
namespace Go.OAI
set_option linter.unusedVariables false
inductive Ty where
  | int (k : IntKind) | bool | str | slice (t : Ty) | pair (a b : Ty) | unit
  deriving DecidableEq, Inhabited
@[reducible] def Ty.den : Ty → Type
  | .int _ => Int | .bool => Bool | .str => ByteArray | .slice t => List t.den | .pair a b => a.den × b.den | .unit => Unit
def Ty.cells : Ty → Nat
  | .int _ | .bool | .str | .slice _ => 1 | .pair a b => a.cells + b.cells | .unit => 0
def Ty.dflt : (T : Ty) → T.den
  | .int _ => (0 : Int) | .bool => false | .str => ByteArray.empty | .slice _ => [] | .pair a b => (a.dflt, b.dflt) | .unit => ()
inductive AVal where
  | undef
  | int (k : IntKind) (n : Int) | bool (b : Bool) | str (s : ByteArray)
  | sl (T : Ty) (l : List T.den)      -- a slice that is only read
  | nils                              -- the nil slice
  | agg (cs : List AVal) | tup (vs : List AVal)
  | vptr (cs : List AVal) (c : Nat)   -- a pointer to cell c of cells that are only read
  | sref (id : Nat) (row : Option Nat) (win : Option (Nat × Nat))   -- a slice of the frame's own (or a row of it; or a window)
  | ptr (id c : Nat)                  -- a pointer to cell c of a box
  | eptr (id : Nat) (row : Option Nat) (i c : Nat)   -- a pointer to cell c of element i
  | osl (T : Ty) (l : List T.den) | omat (T : Ty) (l : List (List T.den)) | obox (cs : List AVal)   -- what is handed over whole
  | fn (f : Nat) (cap : List AVal)
  | rptr (ts : List Nat) (c : Nat)   -- a pointer to cell c of a box that nobody changes while the frame runs; its cells are what came in as ts
  | cfn (f : Nat) (ts : List Nat)    -- a function literal; what it captures came in as ts
  deriving Inhabited
def Ty.flat : (T : Ty) → T.den → List AVal
  | .int k, n => [.int k n] | .bool, b => [.bool b] | .str, s => [.str s] | .slice t, l => [.sl t l]
  | .pair a b, x => a.flat x.1 ++ b.flat x.2 | .unit, _ => []
def Ty.castL {T U : Ty} (h : T = U) (x : List T.den) : List U.den := h ▸ x
def Ty.unflat : (T : Ty) → List AVal → Option (T.den × List AVal)
  | .int k, .int k' n :: r => if k' = k then some (n, r) else none
  | .bool, .bool b :: r => some (b, r)
  | .str, .str s :: r => some (s, r)
  | .slice t, .sl t' l :: r => if h : t' = t then some (Ty.castL h l, r) else none
  | .slice _, .nils :: r => some ([], r)
  | .pair a b, cs => match a.unflat cs with
    | some (x, r) => match b.unflat r with
      | some (y, r') => some ((x, y), r')
      | none => none
    | none => none
  | .unit, cs => some ((), cs)
  | _, _ => none
def Ty.unflat1 (T : Ty) (cs : List AVal) : Option T.den :=
  match T.unflat cs with
  | some (x, []) => some x
  | _ => none
inductive Obj where
  | box (cs : List AVal)
  | sl (T : Ty) (l : List T.den)
  | mat (T : Ty) (l : List (List T.den))   -- a slice of slices, each row in memory of its own
  | matH (T : Ty) (l : List (List T.den)) (h o : Nat)   -- its row h lies in object o
structure St where
  tm : Nat → AVal
  ob : Nat → Option Obj
  nx : Nat
  n : Nat
  pr : List Nat := []   -- the parameters' slots that still hold what came in
structure Delta where
  val : AVal
  upd : List (Nat × Option Obj)
def St.setTm (st : St) (d : Nat) (v : AVal) : St :=
  match decide (d < st.n) with
  | true => { st with tm := (fun t => if t = d then v else st.tm t), pr := st.pr.filter (fun k => k != d) }
  | false => st
def St.kn (st : St) (d : Nat) (v : AVal) : St := { st with tm := fun t => if t = d then v else st.tm t }
def St.put (st : St) (d : Option Nat) (v : AVal) : St :=
  match d with
  | some d => st.setTm d v
  | none => st
def obUpd (ob : Nat → Option Obj) : List (Nat × Option Obj) → Nat → Option Obj
  | [] => ob
  | (i, o) :: r => obUpd (fun j => if j = i then o else ob j) r
def St.app (st : St) (d : Option Nat) (x : Delta) : St := { st.put d x.val with ob := obUpd st.ob x.upd }
def ofVal : Value → AVal
  | .int k n => .int k n
  | .bool b => .bool b
  | .string s => .str s
  | .slice none 0 0 => .nils
  | _ => .undef
def ev (st : St) : Operand → AVal
  | .tmp t => match decide (t < st.n) with
    | true => st.tm t
    | false => .undef
  | .const v => ofVal v
  | .func f => .fn f []
  | .global _ => .undef
def pvAt (st : St) (t : Nat) : Option AVal :=
  match decide (t < st.n) with
  | true => none
  | false => some (st.tm t)
def pvCell (st : St) (t : Nat) : Option AVal :=
  match pvAt st t with
  | none => none
  | some v => match v with
    | .agg _ | .tup _ | .undef => none
    | v => some v
def pvCells (st : St) : List Nat → Option (List AVal)
  | [] => some []
  | t :: r => match pvCell st t with
    | some v => match pvCells st r with
      | some vs => some (v :: vs)
      | none => none
    | none => none
def tyOf (P : Program) : Nat → TypeId → Option Ty
  | 0, _ => none
  | d + 1, t => match P.underlying t with
    | some (.int k) => some (.int k)
    | some .bool => some .bool
    | some .string => some .str
    | some (.slice e) => match tyOf P d e with
      | some T => some (.slice T)
      | none => none
    | some (.struct fs) => fs.toList.foldr (fun f r => match tyOf P d f.type, r with
      | some a, some b => some (.pair a b)
      | _, _ => none) (some .unit)
    | _ => none
def elemTy (P : Program) (t : TypeId) : Option Ty :=
  match P.underlying t with
  | some (.slice e) => tyOf P 6 e
  | _ => none
def isAggB (P : Program) (t : TypeId) : Option Bool :=
  match P.underlying t with
  | some (.struct _) | some (.array _ _) => some true
  | some _ => some false
  | none => none
def sizeB (P : Program) (t : TypeId) : Option Nat := (P.info? t).map (·.size)
def bytesB (P : Program) (t : TypeId) : Nat := match P.info? t with | some i => i.bytes | none => 0
def fieldB (P : Program) (t : TypeId) (f : Nat) : Option (Nat × TypeId) :=
  match P.underlying t with
  | some (.struct fs) => match fs[f]? with
    | some f => some (f.offset, f.type)
    | none => none
  | _ => none
def zeroB (P : Program) (t : TypeId) : Option (List AVal) :=
  match P.info? t with
  | some i => match i.zero with
    | some v => match v.cells.toList.all (·.oneCell') with
      | true => some (v.cells.toList.map ofVal)
      | false => none
    | none => none
  | none => none
def elemSz (P : Program) (t : TypeId) : Option Nat :=
  match P.underlying t with
  | some (.slice e) => sizeB P e
  | _ => none
def elemTyS (P : Program) (t : TypeId) : Option Ty :=
  match elemTy P t, elemSz P t with
  | some E, some n => match decide (n = E.cells) with
    | true => some E
    | false => none
  | _, _ => none
def arrB (P : Program) (t : TypeId) : Option (Nat × Nat) :=
  match P.underlying t with
  | some (.array n e) => match sizeB P e with
    | some s => some (n, s)
    | none => none
  | _ => none
def lat {α : Type} (l : List α) (i : Int) : Option α := bif decide (0 ≤ i) then l[i.toNat]? else none
def winL {α : Type} (w : Option (Nat × Nat)) (l : List α) : List α :=
  match w with
  | none => l
  | some (o, n) => (l.drop o).take n
def winOff (w : Option (Nat × Nat)) : Nat := match w with | none => 0 | some (o, _) => o
structure SL where
  T : Ty
  l : List T.den
def full (st : St) (id : Nat) (row : Option Nat) : Option SL :=
  match st.ob id with
  | some (.sl T l) => match row with
    | none => some ⟨T, l⟩
    | some _ => none
  | some (.mat T l) => match row with
    | none => some ⟨.slice T, l⟩
    | some i => some ⟨T, l.getD i []⟩
  | _ => none
def slc (st : St) : AVal → Option SL
  | .sl T l => some ⟨T, l⟩
  | .sref id row win => match full st id row with
    | some ⟨T, l⟩ => some ⟨T, winL win l⟩
    | none => none
  | _ => none
def lenTy (P : Program) (t : TypeId) : Nat :=
  match P.underlying t with
  | some (.slice _) => 1
  | some .string => 2
  | _ => 0
def lenA (st : St) (ty : Nat) (x : AVal) : Option Nat :=
  match ty with
  | 1 => match x with
    | .nils => some 0
    | x => match slc st x with
      | some ⟨_, l⟩ => some l.length
      | none => none
  | 2 => match x with
    | .str s => some s.size
    | _ => none
  | _ => none
def cellsOfV : AVal → Option (List AVal)
  | .agg cs => some cs
  | .undef | .tup _ | .osl _ _ | .omat _ _ | .obox _ => none
  | v => some [v]
def takeV (agg : Bool) (n c : Nat) (cs : List AVal) : Option AVal :=
  bif agg then (bif decide (c + n ≤ cs.length) then some (.agg ((cs.drop c).take n)) else none) else cs[c]?
def elemCells (st : St) (id : Nat) (row : Option Nat) (i : Nat) : Option (List AVal) :=
  match st.ob id with
  | some (.sl T l) => match row with
    | none => some (T.flat (l.getD i T.dflt))
    | some _ => none
  | some (.mat T l) => match row with
    | none => some [.sref id (some i) none]
    | some j => some (T.flat ((l.getD j []).getD i T.dflt))
  | _ => none
def bat (s : ByteArray) (i : Int) : Option Int := bif decide (0 ≤ i) then (s.data.toList[i.toNat]?).map fun b => (b.toNat : Int) else none
def eqS (a b : ByteArray) : Bool := a.toList == b.toList
def arrI (P : Program) (t : TypeId) : Option Nat :=
  match P.underlying t with
  | some (.array n e) => match P.underlying e, sizeB P e with
    | some (.int _), some 1 => some n
    | _, _ => none
  | _ => none
def isStrT (P : Program) (t : TypeId) : Bool := match P.underlying t with | some .string => true | _ => false
section
variable {R : Type}
def isBoolT (P : Program) (t : TypeId) : Option Bool := match P.underlying t with | some .bool => some true | some (.slice _) => some false | _ => none
def andI (a : IntKind) (m n : Int) : Int := a.wrap ((BitVec.ofInt a.bits m &&& BitVec.ofInt a.bits n).toNat)
def xorI (a : IntKind) (m n : Int) : Int := a.wrap ((BitVec.ofInt a.bits m ^^^ BitVec.ofInt a.bits n).toNat)
def shlI (a : IntKind) (m n : Int) : Int := a.wrap (m * 2 ^ (min n.toNat a.bits))
def shrI (a : IntKind) (m n : Int) : Int := m.fdiv (2 ^ (min n.toNat a.bits))
def binA (op : BinOp) (tb : Option Bool) (x y : AVal) (k : AVal → Option R) : Option R :=
  match x, y with
  | .int a m, .int b n => match decide (a = b) with
    | false => match op with
      | .shl => bif decide (0 ≤ n) then k (.int a (shlI a m n)) else none
      | .shr => bif decide (0 ≤ n) then k (.int a (shrI a m n)) else none
      | _ => none
    | true => match op with
      | .shl => bif decide (0 ≤ n) then k (.int a (shlI a m n)) else none
      | .shr => bif decide (0 ≤ n) then k (.int a (shrI a m n)) else none
      | .and => k (.int a (andI a m n))
      | .xor => k (.int a (xorI a m n))
      | .add => k (.int a (a.wrap (m + n)))
      | .sub => k (.int a (a.wrap (m - n)))
      | .mul => k (.int a (a.wrap (m * n)))
      | .quo => bif decide (n = 0) then none else k (.int a (a.wrap (m.tdiv n)))
      | .rem => bif decide (n = 0) then none else k (.int a (m.tmod n))
      | .eql => k (.bool (m == n))
      | .neq => k (.bool (m != n))
      | .lss => k (.bool (decide (m < n)))
      | .leq => k (.bool (decide (m ≤ n)))
      | .gtr => k (.bool (decide (m > n)))
      | .geq => k (.bool (decide (m ≥ n)))
      | _ => none
  | .bool a, .bool b => match op, tb with
    | .eql, some true => k (.bool (a == b))
    | .neq, some true => k (.bool (!(a == b)))
    | _, _ => none
  | .str a, .str b => match op with
    | .add => bif decide (a.size + b.size ≤ 9223372036854775807) then k (.str (a ++ b)) else none
    | .eql => k (.bool (eqS a b))
    | .neq => k (.bool (!eqS a b))
    | _ => none
  | .sl _ l, .nils => match op, tb with
    | .eql, some false => bif decide (0 < l.length) then k (.bool false) else none
    | .neq, some false => bif decide (0 < l.length) then k (.bool true) else none
    | _, _ => none
  | .nils, .nils => match op, tb with
    | .eql, some false => k (.bool true)
    | .neq, some false => k (.bool false)
    | _, _ => none
  | _, _ => none
end
def eqFs (P : Program) (xs ys : List AVal) : List Field → Option Bool
  | [] => some true
  | f :: fs => match decide (f.name = "_"), P.underlying f.type, xs[f.offset]?, ys[f.offset]? with
    | false, some (.int _), some (.int a m), some (.int b n) => match decide (a = b) with
      | true => match eqFs P xs ys fs with
        | some r => some ((m == n) && r)
        | none => none
      | false => none
    | _, _, _, _ => none
def eqA (P : Program) (t : TypeId) (xs ys : List AVal) : Option Bool :=
  match P.underlying t with
  | some (.struct fs) => match P.stoodInHeld t, P.eqGuardType P.depth t with
    | false, false => eqFs P xs ys fs.toList
    | _, _ => none
  | _ => none
def resCell (st : St) (own : Bool) : AVal → Option AVal
  | .int k n => some (.int k n) | .bool b => some (.bool b) | .str s => some (.str s) | .sl T l => some (.sl T l) | .nils => some .nils
  | .sref id row win => match own with
    | true => match st.ob id with
      | some (.sl T l) => match row with
        | none => some (.osl T (winL win l))
        | some _ => none
      | some (.mat T l) => match row with
        | none => match win with
          | none => some (.omat T l)
          | some _ => none
        | some i => some (.osl T (winL win (l.getD i [])))
      | _ => none
    | false => match full st id row with
      | some ⟨T, l⟩ => some (.sl T (winL win l))
      | none => none
  | _ => none
def resCells (st : St) (own : Bool) : List AVal → Option (List AVal)
  | [] => some []
  | x :: r => match resCell st own x with
    | some y => match resCells st own r with
      | some ys => some (y :: ys)
      | none => none
    | none => none
def resArg (st : St) (own : Bool) : AVal → Option AVal
  | .agg cs => match resCells st own cs with
    | some ys => some (.agg ys)
    | none => none
  | .ptr id c => match c with
    | 0 => match st.ob id with
      | some (.box cs) => match resCells st true cs with
        | some ys => some (.obox ys)
        | none => none
      | _ => none
    | _ + 1 => none
  | x => resCell st own x
def ownIds : List AVal → List (Nat × Option Nat)
  | [] => []
  | .sref id row _ :: r => (id, row) :: ownIds r
  | _ :: r => ownIds r
def ownArg (st : St) : AVal → List (Nat × Option Nat)
  | .agg cs => ownIds cs
  | .ptr id _ => (id, none) :: (match st.ob id with | some (.box cs) => ownIds cs | _ => [])
  | x => ownIds [x]
def instCells : List AVal → Nat → List AVal × List (Nat × Option Obj) × Nat
  | [], i => ([], [], i)
  | .osl T l :: r, i => let (ys, os, j) := instCells r (i + 1); (.sref i none none :: ys, (i, some (.sl T l)) :: os, j)
  | .omat T l :: r, i => let (ys, os, j) := instCells r (i + 1); (.sref i none none :: ys, (i, some (.mat T l)) :: os, j)
  | x :: r, i => let (ys, os, j) := instCells r i; (x :: ys, os, j)
def instArg (x : AVal) (i : Nat) : AVal × List (Nat × Option Obj) × Nat :=
  match x with
  | .agg cs => let (ys, os, j) := instCells cs i; (.agg ys, os, j)
  | .obox cs => let (ys, os, j) := instCells cs (i + 1); (.ptr i 0, os ++ [(i, some (.box ys))], j)
  | .osl T l => (.sref i none none, [(i, some (.sl T l))], i + 1)
  | .omat T l => (.sref i none none, [(i, some (.mat T l))], i + 1)
  | x => (x, [], i)
def instList : List AVal → Nat → List AVal × List (Nat × Option Obj) × Nat
  | [], i => ([], [], i)
  | x :: r, i => let (y, os, j) := instArg x i; let (ys, os', j') := instList r j; (y :: ys, os ++ os', j')
def instRes (x : AVal) (i : Nat) : AVal × List (Nat × Option Obj) × Nat :=
  match x with
  | .tup vs => let (ys, os, j) := instList vs i; (.tup ys, os, j)
  | x => instArg x i
def Ty.plain : Ty → Bool
  | .slice _ => false
  | .pair a b => a.plain && b.plain
  | _ => true
def roFree1 : AVal → Bool
  | .sl _ _ => false
  | .osl T _ => T.plain
  | .omat T _ => T.plain
  | _ => true
def roFree : List AVal → Bool
  | [] => true
  | .agg cs :: r => cs.all roFree1 && roFree r
  | .obox cs :: r => cs.all roFree1 && roFree r
  | x :: r => roFree1 x && roFree r
def resList : AVal → List AVal
  | .tup vs => vs
  | x => [x]
def isOwn1 : AVal → Bool
  | .osl _ _ | .omat _ _ => true
  | _ => false
def isOwn : AVal → Bool
  | .obox _ => true
  | .agg cs => cs.any isOwn1
  | x => isOwn1 x
def backCell (st : St) : AVal → AVal → Option (List (Nat × Option Obj))
  | .sref id none none, .osl T l => match st.ob id with
    | some (.sl U _) => match decide (T = U) with
      | true => some [(id, some (.sl T l))]
      | false => none
    | _ => none
  | .sref _ none none, .omat _ _ => some []      -- its rows may lie elsewhere now: it is ended
  | .sref id (some i) none, .osl T l => match st.ob id with
    | some (.mat T' m) => if h : T = T' then some [(id, some (.mat T' (m.set i (Ty.castL h l))))] else none
    | _ => none
  | .sref .., _ => none
  | _, _ => some []
def backCells (st : St) : List AVal → List AVal → Option (List (Nat × Option Obj))
  | [], [] => some []
  | x :: xs, y :: ys => match backCell st x y with
    | some a => match backCells st xs ys with
      | some b => some (a ++ b)
      | none => none
    | none => none
  | _, _ => none
def backArg (st : St) (x y : AVal) (i : Nat) : Option (List (Nat × Option Obj) × Nat) :=
  match x, y with
  | _, .undef => some ([], i)
  | .ptr id 0, .obox ys => let (zs, os, j) := instCells ys i; some (os ++ [(id, some (.box zs))], j)
  | .agg xs, .agg ys => match backCells st xs ys with
    | some a => some (a, i)
    | none => none
  | x, y => match backCell st x y with
    | some a => some (a, i)
    | none => none
inductive GP where
  | cell (k c : Nat) | cap (k c : Nat)
  deriving DecidableEq
structure Callee where
  gp : List GP := []   -- the guests: values that lie in boxes which stand still, handed over behind the arguments
  fm : List (Option AVal) := []   -- in which form arguments and guests that are pointers to such boxes, or function literals, are handed over
  gb : Nat := 0   -- the guests' slots are from here on
  own : List Bool := []
  shy : Bool := false   -- what comes back may be read-only slices
  X : Type
  Y : Type
  inn : List AVal → Option X
  G : X → Option Y
  out : Y → AVal × List AVal
  elim : {R : Type} → Y → (AVal × List AVal → Option R) → Option R := fun y K => K (out y)
  law : ∀ {R : Type} (y : Y) (K : AVal × List AVal → Option R), elim y K = K (out y) := by intros; rfl
def isPtr : AVal → Bool
  | .ptr .. => true
  | _ => false
def resArgs (st : St) : List Bool → List AVal → Option (List AVal)
  | _, [] => some []
  | os, x :: xs => match resArg st (os.headD false) x with
    | some y => match resArgs st os.tail xs with
      | some ys => some (y :: ys)
      | none => none
    | none => none
def pickOwn (b : Bool) : List AVal → List AVal → List AVal
  | d :: ds, x :: xs => match isOwn d == b with
    | true => x :: pickOwn b ds xs
    | false => pickOwn b ds xs
  | _, _ => []
def idsOf (st : St) : List AVal → List Nat
  | [] => []
  | x :: r => (ownArg st x).map (·.1) ++ idsOf st r
def backArgs (st : St) : List AVal → List AVal → Nat → Option (List (Nat × Option Obj) × Nat)
  | [], [], i => some ([], i)
  | x :: xs, y :: ys, i => match backArg st x y i with
    | some (a, j) => match backArgs st xs ys j with
      | some (b, j') => some (a ++ b, j')
      | none => none
    | none => none
  | _, _, _ => none
def loOf (s : St) (x : Option Operand) : Option Int :=
  match x with
  | none => some (0 : Int)
  | some e => match ev s e with
    | .int _ i => some i
    | _ => none
def hiOf (s : St) (x : Option Operand) : Option (Option Int) :=
  match x with
  | none => some (none : Option Int)
  | some e => match ev s e with
    | .int _ i => some (some i)
    | _ => none
def elemZero (P : Program) (t : TypeId) : Option (List AVal) :=
  match P.underlying t with
  | some (.slice e) => zeroB P e
  | _ => none
def elemBytes (P : Program) (t : TypeId) : Nat :=
  match P.underlying t with
  | some (.slice e) => bytesB P e
  | _ => 0
def structOk (P : Program) (t : TypeId) : Bool :=
  match P.underlying t with
  | some (.struct fs) => fs.toList.all fun f => (sizeB P f.type).isSome
  | _ => false
def buildL (E : Ty) (st : St) : List (Nat × Operand) → Option (List E.den)
  | [] => some []
  | p :: r => match cellsOfV (ev st p.2) with
    | some vs => match E.unflat1 vs with
      | some y => match buildL E st r with
        | some l => some (y :: l)
        | none => none
      | none => none
    | none => none
def makeObj (E : Ty) (zs : List AVal) (n : Nat) : Option Obj :=
  match E with
  | .slice U => match zs with
    | [.nils] => some (.mat U (List.replicate n []))
    | _ => none
  | E => match E.unflat1 zs with
    | some y => some (.sl E (List.replicate n y))
    | none => none
def bldObj : (E : Ty) → List E.den → Obj
  | .slice U, [] => .mat U []
  | E, l => .sl E l
def buildF (P : Program) (t : TypeId) (st : St) : List (Nat × Operand) → List AVal → Option (List AVal)
  | [], cs => some cs
  | p :: r, cs => match fieldB P t p.1, cellsOfV (ev st p.2) with
    | some (off, ft), some vs => match sizeB P ft with
      | some n => match decide (vs.length = n), decide (off + n ≤ cs.length) with
        | true, true => buildF P t st r (cs.take off ++ vs ++ cs.drop (off + n))
        | _, _ => none
      | none => none
    | _, _ => none
def ptrsA : List AVal → Bool
  | [] => true
  | .ptr _ _ :: r => ptrsA r
  | _ :: _ => false
section
variable {R : Type}
def callA (c : Callee) (ib : Nat) (st : St) (args : List AVal) (k : Delta → Option R) : Option R :=
  match resArgs st c.own args with
  | none => none
  | some ds => match decide ((idsOf st (pickOwn true ds args)).Nodup) && (idsOf st (pickOwn false ds args)).all (fun i => !(idsOf st (pickOwn true ds args)).contains i) with
    | false => none
    | true => match c.inn ds with
      | none => none
      | some x => (c.G x).bind fun y => c.elim y fun o =>
        match (roFree (resList o.1) && roFree o.2) || (idsOf st (pickOwn false ds args)).isEmpty with
        | false => none
        | true => match backArgs st (pickOwn true ds args) o.2 ib with
          | none => none
          | some (os, j) => match instRes o.1 j with
            | (v, ns, j') => match decide (j' ≤ ib + 16) with
              | true => k ⟨v, (idsOf st (pickOwn true ds args)).map (fun i => (i, none)) ++ (os ++ ns)⟩
              | false => none
abbrev Arg := AVal × Option Nat
def pvArgs (st : St) : List Nat → Option (List Arg)
  | [] => some []
  | t :: r => match pvAt st t with
    | some v => match pvArgs st r with
      | some vs => some ((v, some t) :: vs)
      | none => none
    | none => none
def guest1 (st : St) (L : List Arg) : GP → Option Arg
  | .cell k c => match L[k]? with
    | some (.ptr id 0, _) => match st.ob id with
      | some (.box cs) => match cs[c]? with
        | some x => some (x, none)
        | none => none
      | _ => none
    | some (.rptr ts 0, _) => match ts[c]? with
      | some t => match pvAt st t with
        | some v => some (v, some t)
        | none => none
      | none => none
    | _ => none
  | .cap k c => match L[k]? with
    | some (.fn _ caps, _) => match caps[c]? with
      | some x => some (x, none)
      | none => none
    | some (.cfn _ ts, _) => match ts[c]? with
      | some t => match pvAt st t with
        | some v => some (v, some t)
        | none => none
      | none => none
    | _ => none
def guests (st : St) : List GP → List Arg → Option (List Arg)
  | [], L => some L
  | p :: r, L => match guest1 st L p with
    | some x => guests st r (L ++ [x])
    | none => none
def sameA (x y : Arg) : Bool :=
  match x, y with
  | (_, some p), (_, some q) => decide (p = q)
  | (.ptr i c, _), (.ptr j d, _) => decide (i = j) && decide (c = d)
  | _, _ => false
def cellsOk (gp : List GP) (gb : Nat) (L : List Arg) (x : Arg) : List Nat → Nat → Bool
  | [], _ => true
  | t :: r, j => (decide (gb ≤ t) && match gp[t - gb]? with
    | some (.cell i c) => decide (c = j) && (match L[i]? with
      | some y => sameA y x
      | none => false)
    | _ => false) && cellsOk gp gb L x r (j + 1)
def capsOk (gp : List GP) (gb i : Nat) : List Nat → Nat → Bool
  | [], _ => true
  | t :: r, j => (decide (gb ≤ t) && match gp[t - gb]? with
    | some (.cap i' c) => decide (c = j) && decide (i' = i)
    | _ => false) && capsOk gp gb i r (j + 1)
def isBoxP (st : St) : AVal → Bool
  | .ptr id 0 => match st.ob id with
    | some (.box _) => true
    | _ => false
  | .rptr _ 0 => true
  | _ => false
def formOk (st : St) (gp : List GP) (gb : Nat) (L : List Arg) (i : Nat) (x : Arg) : AVal → Bool
  | .rptr ts 0 => isBoxP st x.1 && cellsOk gp gb L x ts 0
  | .cfn f ts => match x.1 with
    | .fn g caps => decide (g = f) && (decide (caps.length = ts.length) && capsOk gp gb i ts 0)
    | .cfn g us => decide (g = f) && (decide (us.length = ts.length) && capsOk gp gb i ts 0)
    | _ => false
  | _ => false
def formArgs (st : St) (gp : List GP) (gb : Nat) (L : List Arg) : Nat → List (Option AVal) → List Bool → List Arg → Option (List AVal)
  | _, _, _, [] => some []
  | i, fs, os, x :: xs => match fs.headD none with
    | some d => match formOk st gp gb L i x d with
      | true => match formArgs st gp gb L (i + 1) fs.tail os.tail xs with
        | some ys => some (d :: ys)
        | none => none
      | false => none
    | none => match resArg st (os.headD false) x.1 with
      | some y => match formArgs st gp gb L (i + 1) fs.tail os.tail xs with
        | some ys => some (y :: ys)
        | none => none
      | none => none
def formless : List (Option AVal) → List Arg → List AVal
  | _, [] => []
  | fs, x :: xs => (match fs.headD none with
    | some _ => .nils
    | none => x.1) :: formless fs.tail xs
def formIds : List (Option AVal) → List Arg → List Nat
  | _, [] => []
  | fs, x :: xs => (match fs.headD none, x.1 with
    | some _, .ptr id _ => [id]
    | _, _ => []) ++ formIds fs.tail xs
def callG (c : Callee) (ib : Nat) (st : St) (na : Nat) (L0 : List Arg) (k : Delta → Option R) : Option R :=
  match guests st c.gp L0 with
  | none => none
  | some L => match formArgs st c.gp c.gb L 0 c.fm c.own L with
    | none => none
    | some ds => match decide (na ≤ c.gb) && (decide ((idsOf st (pickOwn true ds (formless c.fm L))).Nodup) && ((idsOf st (pickOwn false ds (formless c.fm L)) ++ formIds c.fm L).all (fun i => !(idsOf st (pickOwn true ds (formless c.fm L))).contains i))) with
      | false => none
      | true => match c.inn ds with
        | none => none
        | some x => (c.G x).bind fun y => c.elim y fun o =>
          match (roFree (resList o.1) && roFree o.2) || (idsOf st (pickOwn false ds (formless c.fm L))).isEmpty with
          | false => none
          | true => match backArgs st (pickOwn true ds (formless c.fm L)) o.2 ib with
            | none => none
            | some (os, j) => match instRes o.1 j with
              | (v, ns, j') => match decide (j' ≤ ib + 16) with
                | true => k ⟨v, (idsOf st (pickOwn true ds (formless c.fm L))).map (fun i => (i, none)) ++ (os ++ ns)⟩
                | false => none
def slcF (st : St) : AVal → Option SL
  | .sl T l => some ⟨T, l⟩
  | .sref id row win => match st.ob id with
    | some (.sl T l) => match row with
      | none => some ⟨T, winL win l⟩
      | some _ => none
    | some (.mat T l) => match row with
      | none => none
      | some i => some ⟨T, winL win (l.getD i [])⟩
    | _ => none
  | _ => none
def srcA (E : Ty) (st : St) (b : AVal) : Option (List E.den) :=
  match b with
  | .nils => some []
  | b => match slcF st b with
    | some ⟨V, m⟩ => if g : V = E then some (Ty.castL g m) else none
    | none => none
def appendA (P : Program) (T : TypeId) (ib : Nat) (st : St) (a b : AVal) (k : Delta → Option R) : Option R :=
  match elemTyS P T, elemZero P T with
  | some E, some zs => match decide (elemBytes P T ≤ 128) && (decide (0 < E.cells) && decide (zs.length = E.cells)) with
    | false => none
    | true => match srcA E st b with
      | none => none
      | some m => match a with
        | .nils => bif decide (m.length ≤ 1099511627776) then k ⟨.sref ib none none, [(ib, some (.sl E m))]⟩ else none
        | .sref id none win => match st.ob id with
          | some (.sl U l) => if h : U = E then
              (bif decide ((winL win l).length + m.length ≤ 1099511627776) then k ⟨.sref ib none none, [(id, none), (ib, some (.sl E (winL win (Ty.castL h l) ++ m)))]⟩ else none)
            else none
          | _ => none
        | _ => none
  | _, _ => none
def evalOp (P : Program) (env : Nat → Option Callee) (ib : Nat) (st : St) (o : Oper) (k : Delta → Option R) : Option R :=
  match o.op with
  | .move x | .assign x => k ⟨ev st x, []⟩
  | .pick c a b => match ev st c with
    | .bool true => k ⟨ev st a, []⟩
    | .bool false => k ⟨ev st b, []⟩
    | _ => none
  | .alloc T => match zeroB P T with
    | some cs => k ⟨.ptr ib 0, [(ib, some (.box cs))]⟩
    | none => none
  | .box _ x => match cellsOfV (ev st x) with
    | some cs => k ⟨.ptr ib 0, [(ib, some (.box cs))]⟩
    | none => none
  | .load T p => match isAggB P T, sizeB P T with
    | some g, some n => match ev st p with
      | .vptr cs c => match takeV g n c cs with
        | some v => k ⟨v, []⟩
        | none => none
      | .ptr id c => match st.ob id with
        | some (.box cs) => match takeV g n c cs with
          | some v => k ⟨v, []⟩
          | none => none
        | _ => none
      | .eptr id row i c => match st.ob id with
        | some (.matH _ _ h o) => match g, row, c with
          | false, none, 0 => bif decide (i = h) then k ⟨.sref o none none, []⟩ else none
          | _, _, _ => none
        | _ => match elemCells st id row i with
          | some cs => match takeV g n c cs with
            | some v => k ⟨v, []⟩
            | none => none
          | none => none
      | .rptr ts c => match g with
        | false => match ts[c]? with
          | some t => match pvCell st t with
            | some v => k ⟨v, []⟩
            | none => none
          | none => none
        | true => match decide (c + n ≤ ts.length) with
          | true => match pvCells st ((ts.drop c).take n) with
            | some vs => k ⟨.agg vs, []⟩
            | none => none
          | false => none
      | _ => none
    | _, _ => none
  | .store T p x => match sizeB P T with
    | none => none
    | some n => match cellsOfV (ev st x) with
      | none => none
      | some vs => match decide (vs.length = n) with
        | false => none
        | true => match ev st p with
          | .ptr id c => match st.ob id with
            | some (.box cs) => bif decide (c + n ≤ cs.length) && decide (0 < n) then k ⟨.undef, [(id, some (.box (cs.take c ++ vs ++ cs.drop (c + n))))]⟩ else none
            | _ => none
          | .eptr id row i c => match st.ob id with
            | some (.sl U l) => match row with
              | none => match decide (c + n ≤ U.cells) with
                | true => match U.unflat1 ((U.flat (l.getD i U.dflt)).take c ++ vs ++ (U.flat (l.getD i U.dflt)).drop (c + n)) with
                  | some y => k ⟨.undef, [(id, some (.sl U (l.set i y)))]⟩
                  | none => none
                | false => none
              | some _ => none
            | some (.mat U l) => match row with
              | some j => match decide (c + n ≤ U.cells) with
                | true => match U.unflat1 ((U.flat ((l.getD j []).getD i U.dflt)).take c ++ vs ++ (U.flat ((l.getD j []).getD i U.dflt)).drop (c + n)) with
                  | some y => k ⟨.undef, [(id, some (.mat U (l.set j ((l.getD j []).set i y))))]⟩
                  | none => none
                | false => none
              | none => none
            | some (.matH U l h _) => match row, c, n, ev st x with
              | none, 0, 1, .sref id2 none none => match st.ob id2 with
                | some (.sl V m) => if e : V = U then (bif decide (i = h) && decide (id2 ≠ id) then k ⟨.undef, [(id, some (.mat U (l.set i (Ty.castL e m)))), (id2, none)]⟩ else none) else none
                | _ => none
              | _, _, _, _ => none
            | _ => none
          | _ => none
  | .fieldAddr T p f => match fieldB P T f with
    | none => none
    | some (off, t) => match sizeB P t with
      | some (_ + 1) => match ev st p with
        | .vptr cs c => k ⟨.vptr cs (c + off), []⟩
        | .ptr id c => k ⟨.ptr id (c + off), []⟩
        | .eptr id row i c => k ⟨.eptr id row i (c + off), []⟩
        | .rptr ts c => k ⟨.rptr ts (c + off), []⟩
        | _ => none
      | _ => none
  | .field T x f => match fieldB P T f with
    | none => none
    | some (off, t) => match isAggB P t, sizeB P t with
      | some g, some n => match ev st x with
        | .agg cs => match takeV g n off cs with
          | some v => k ⟨v, []⟩
          | none => none
        | _ => none
      | _, _ => none
  | .indexAddr T x ix => match elemSz P T with
    | none => match arrB P T with
      | some (len, sz) => match ev st ix, ev st x with
        | .int _ i, .ptr id c => bif decide (0 ≤ i) && decide (i < (len : Int)) then k ⟨.ptr id (c + i.toNat * sz), []⟩ else none
        | _, _ => none
      | none => none
    | some n => match ev st ix with
      | .int _ i => match ev st x with
        | .sl U l => match decide (n = U.cells) with
          | true => (lat l i).bind fun x => k ⟨.vptr (U.flat x) 0, []⟩
          | false => none
        | .sref id row win => match st.ob id with
          | some (.matH _ l _ _) => match row, win, n with
            | none, none, 1 => bif decide (0 ≤ i) && decide (i < l.length) then k ⟨.eptr id none (0 + i.toNat) 0, []⟩ else none
            | _, _, _ => none
          | _ => match full st id row with
            | some ⟨U, l⟩ => match decide (n = U.cells) with
              | true => bif decide (0 ≤ i) && decide (i < (winL win l).length) then k ⟨.eptr id row (winOff win + i.toNat) 0, []⟩ else none
              | false => none
            | none => none
        | _ => none
      | _ => none
  | .binOp op T x y _ => match ev st x, ev st y with
    | .agg xs, .agg ys => match op, eqA P T xs ys with
      | .eql, some r => k ⟨.bool r, []⟩
      | .neq, some r => k ⟨.bool (!r), []⟩
      | _, _ => none
    | u, v => binA op (isBoolT P T) u v fun v => k ⟨v, []⟩
  | .unOp op _ x => match op, ev st x with
    | .not, .bool b => k ⟨.bool (!b), []⟩
    | .neg, .int a n => k ⟨.int a (a.wrap (0 - n)), []⟩
    | _, _ => none
  | .build T ps => match zeroB P T, structOk P T with
    | none, _ => none
    | some zs, false => match arrB P T, ps.toList with
      | some _, [] => k ⟨.agg zs, []⟩
      | _, _ => none
    | some zs, true => match buildF P T st ps.toList zs with
      | some cs => k ⟨.agg cs, []⟩
      | none => none
  | .buildSlice T len ps => match elemTyS P T, elemZero P T with
    | some E, some _ => match decide (len * E.cells ≤ 16777216), decide (ps.toList.map (·.1) = List.range len) with
      | true, true => match buildL E st ps.toList with
        | some l => k ⟨.sref ib none none, [(ib, some (bldObj E l))]⟩
        | none => none
      | _, _ => none
    | _, _ => none
  | .makeSlice T len cap => match elemTyS P T, elemZero P T with
    | some E, some zs => match decide (elemBytes P T ≤ 256) with
      | true => match ev st len, ev st cap with
        | .int _ n, .int _ m => match makeObj E zs n.toNat with
          | some ob => bif decide (0 ≤ n) && (decide (n ≤ m) && decide (m ≤ 1099511627776)) then k ⟨.sref ib none none, [(ib, some ob)]⟩ else none
          | none => none
        | _, _ => none
      | false => none
    | _, _ => none
  | .slice T x lo hi mx => match mx, elemSz P T with
    | none, some sz => match loOf st lo, hiOf st hi with
      | some l, some h => match ev st x with
        | .sref id row win => match full st id row with
          | some ⟨U, c⟩ => match decide (sz = U.cells) with
            | false => none
            | true => bif decide (0 ≤ l) && (decide (l ≤ h.getD ((winL win c).length : Int)) && decide (h.getD ((winL win c).length : Int) ≤ ((winL win c).length : Int))) then
                k ⟨.sref id row (some (winOff win + l.toNat, (h.getD ((winL win c).length : Int)).toNat - l.toNat)), []⟩ else none
          | none => none
        | .sl U c => match decide (sz = U.cells) with
          | false => none
          | true => bif decide (0 ≤ l) && (decide (l ≤ h.getD (c.length : Int)) && decide (h.getD (c.length : Int) ≤ (c.length : Int))) then
              k ⟨.sl U ((c.drop l.toNat).take ((h.getD (c.length : Int)).toNat - l.toNat)), []⟩ else none
        | _ => none
      | _, _ => none
    | none, none => match isStrT P T, loOf st lo, hiOf st hi with
      | true, some l, some h => match ev st x with
        | .str s => bif decide (0 ≤ l) && (decide (l ≤ h.getD (s.size : Int)) && decide (h.getD (s.size : Int) ≤ (s.size : Int))) then k ⟨.str (s.extract l.toNat (h.getD (s.size : Int)).toNat), []⟩ else none
        | _ => none
      | _, _, _ => none
    | _, _ => none
  | .convert T U x => match P.underlying T, P.underlying U, ev st x with
    | some (.int _), some (.int kd), .int _ n => k ⟨.int kd (kd.wrap n), []⟩
    | some (.slice e), some .string, v => match P.underlying e with
      | some (.int .u8) => match srcA (.int .u8) st v with
        | some l => k ⟨.str (strOfNums l), []⟩
        | none => none
      | _ => none
    | _, _, _ => none
  | .index T x ix => match ev st ix with
    | .int _ i => match ev st x with
      | .agg cs => match arrI P T with
        | some n => bif decide (0 ≤ i) && decide (i < (n : Int)) then (match cs[i.toNat]? with
          | some v => k ⟨v, []⟩
          | none => none) else none
        | none => none
      | .str s => match isStrT P T with
        | true => (bat s i).bind fun b => k ⟨.int .u8 b, []⟩
        | false => none
      | _ => none
    | _ => none
  | .nilCheck x => match ev st x with
    | .ptr id c => k ⟨.ptr id c, []⟩
    | .eptr id row i c => k ⟨.eptr id row i c, []⟩
    | .vptr cs c => k ⟨.vptr cs c, []⟩
    | .rptr ts c => k ⟨.rptr ts c, []⟩
    | _ => none
  | .extract x i => match ev st x with
    | .tup vs => match vs[i]? with
      | some v => k ⟨v, []⟩
      | none => none
    | _ => none
  | .call c => match c.callee with
    | .builtin .len => match c.args.toList, c.argTypes[0]? with
      | [x], some T => match lenA st (lenTy P T) (ev st x) with
        | some n => k ⟨.int .i64 (n : Int), []⟩
        | none => none
      | _, _ => none
    | .builtin .min => match c.args.toList with
      | [x, y] => match ev st x, ev st y with
        | .int a m, .int _ n => k ⟨.int a (if n < m then n else m), []⟩
        | _, _ => none
      | _ => none
    | .builtin .max => match c.args.toList with
      | [x, y] => match ev st x, ev st y with
        | .int a m, .int _ n => k ⟨.int a (if n > m then n else m), []⟩
        | _, _ => none
      | _ => none
    | .builtin .append => match c.args.toList, c.argTypes.toList with
      | [x, y], [T, T'] => match decide (T' = T) with
        | true => appendA P T ib st (ev st x) (ev st y) k
        | false => none
      | _, _ => none
    | .value f => match ev st f with
      | .fn g caps => match env g with
        | some cl => match cl.gp with
          | [] => callA cl ib st (c.args.toList.map (ev st) ++ caps) k
          | _ :: _ => callG cl ib st (c.args.toList.map (ev st) ++ caps).length ((c.args.toList.map (ev st) ++ caps).map fun x => (x, none)) k
        | none => none
      | .cfn g ts => match env g, pvArgs st ts with
        | some cl, some xs => callG cl ib st ((c.args.toList.map (ev st)).length + xs.length) ((c.args.toList.map fun x => (ev st x, none)) ++ xs) k
        | _, _ => none
      | _ => none
    | _ => none
  | .makeFunc fn first caps => match fn, first.toList, ptrsA (caps.toList.map (ev st)) with
    | .func f, [], true => k ⟨.fn f (caps.toList.map (ev st)), []⟩
    | _, _, _ => none
  | _ => none
end
def killC (id : Nat) : AVal → AVal
  | .sref j (some r) w => match decide (j = id) with
    | true => .undef
    | false => .sref j (some r) w
  | .eptr j (some r) i c => match decide (j = id) with
    | true => .undef
    | false => .eptr j (some r) i c
  | x => x
def killA (id : Nat) : AVal → AVal
  | .agg cs => .agg (cs.map (killC id))
  | x => killC id x
def killV (id : Nat) : AVal → AVal
  | .tup vs => .tup (vs.map (killA id))
  | x => killA id x
def killO (id : Nat) : Obj → Obj
  | .box cs => .box (cs.map (killC id))
  | o => o
def St.kill (st : St) (id : Nat) : St :=
  { st with
    tm := fun t => killV id (st.tm t)
    ob := fun i => match st.ob i with
      | some o => some (killO id o)
      | none => none }
def St.setOb (st : St) (i : Nat) (o : Option Obj) : St := { st with ob := fun j => if j = i then o else st.ob j }
def St.delOb (st : St) : Option Nat → St
  | none => st
  | some i => st.setOb i none
def rowOf (st : St) (U : Ty) (x : AVal) : Option (Option Nat × List U.den) :=
  match x with
  | .nils => some (none, [])
  | .sref id none win => match st.ob id with
    | some (.sl V m) => if h : V = U then some (some id, winL win (Ty.castL h m)) else none
    | _ => none
  | _ => none
def matOf (st : St) (U : Ty) (x : AVal) : Option (Option Nat × List (List U.den)) :=
  match x with
  | .nils => some (none, [])
  | .sref id none none => match st.ob id with
    | some (.mat V m) => if h : V = U then some (some id, h ▸ m) else none
    | _ => none
  | _ => none
def frz1 (st : St) (ids : List Nat) : AVal → AVal
  | .sref id row win => match ids.contains id with
    | true => match full st id row with
      | some ⟨T, l⟩ => .sl T (winL win l)
      | none => .undef
    | false => .sref id row win
  | .eptr id row i c => match ids.contains id with
    | true => .undef
    | false => .eptr id row i c
  | .ptr id c => match ids.contains id with
    | true => .undef
    | false => .ptr id c
  | x => x
def frzV (st : St) (ids : List Nat) : AVal → AVal
  | .agg cs => .agg (cs.map (frz1 st ids))
  | .tup _ => .undef
  | x => frz1 st ids x
def frzO (st : St) (ids : List Nat) : Obj → Obj
  | .box cs => .box (cs.map (frz1 st ids))
  | x => x
def St.frz (st : St) (ids : List Nat) : St :=
  { st with
    tm := fun t => frzV st ids (st.tm t)
    ob := fun i => match ids.contains i with
      | true => none
      | false => match st.ob i with
        | some o => some (frzO st ids o)
        | none => none }
def shyIds (st : St) : List Bool → List AVal → List Nat
  | _, [] => []
  | os, x :: xs => (match os.headD false, x with
    | true, _ => []
    | false, .ptr _ _ => []
    | false, x => (ownArg st x).map (·.1)) ++ shyIds st os.tail xs
def frzOp (env : Nat → Option Callee) (st : St) (o : Oper) : St :=
  match o.op with
  | .call c => match c.callee with
    | .value f => match ev st f with
      | .fn g caps => match env g with
        | some cl => match cl.shy with
          | true => match shyIds st cl.own (c.args.toList.map (ev st) ++ caps) with
            | [] => st
            | ids => st.frz ids
          | false => st
        | none => st
      | _ => st
    | _ => st
  | _ => st
section
variable {R : Type}
def sp (P : Program) (ib : Nat) (st : St) (o : Oper) (k : St → Option R) : Option (Option R) :=
  match o.op with
  | .store T p x => match ev st p with
    | .eptr id none i 0 => match st.ob id with
      | some (.mat U l) => match sizeB P T, rowOf st U (ev st x) with
        | some 1, some (d, m) => some (k ((((st.kill id).delOb d).setOb id (some (.mat U (l.set i m)))).put o.dst .undef))
        | _, _ => none
      | _ => none
    | _ => none
  | .buildSlice T 1 ps => match ps.toList with
    | [(0, x)] => match elemTyS P T, elemZero P T with
      | some (.slice U), some zs => match rowOf st U (ev st x) with
        | some (d, m) => some (k (((st.delOb d).setOb ib (some (.mat U [m]))).put o.dst (.sref ib none none)))
        | none => none
      | _, _ => none
    | _ => none
  | .call c => match c.callee with
    | .builtin .append => match c.args.toList, c.argTypes.toList with
      | [x, y], [T, T'] => match decide (T' = T) && decide (elemBytes P T ≤ 128), elemTyS P T, elemZero P T with
        | true, some (.slice U), some [_] => match ev st y with
          | .sref id2 none none => match matOf st U (.sref id2 none none), matOf st U (ev st x) with
            | some (_, m), some (d, l) => match decide (d = some id2) with
              | true => none
              | false => some (bif decide (l.length + m.length ≤ 1099511627776) then k ((((st.delOb (some id2)).delOb d).setOb ib (some (.mat U (l ++ m)))).put o.dst (.sref ib none none)) else none)
            | _, _ => none
          | _ => none
        | _, _, _ => none
      | _, _ => none
    | _ => none
  | _ => none
def stepL (P : Program) (env : Nat → Option Callee) (ib : Nat) (st : St) (o : Oper) (k : St → Option R) : Option R :=
  match sp P ib st o k with
  | some r => r
  | none => evalOp P env ib (frzOp env st o) o fun d => k ((frzOp env st o).app o.dst d)
end
section
variable {R : Type}
def evalOps (P : Program) (env : Nat → Option Callee) (ops : Array Oper) : List Oper → Nat → St → (St → Option R) → Option R
  | [], _, st, k => k st
  | o :: r, ib, st, k => match o.guard with
    | none => stepL P env ib st o fun s => evalOps P env ops r (ib + 16) s k
    | some (j, want) => match (ops[j]?).bind (·.dst) with
      | none => none
      | some s => match ev st (.tmp s) with
        | .bool b => cond b
          (match want with
            | true => stepL P env ib (st.kn s (.bool true)) o fun z => evalOps P env ops r (ib + 16) z k
            | false => evalOps P env ops r (ib + 16) ((st.kn s (.bool true)).put o.dst (.tup [])) k)
          (match want with
            | false => stepL P env ib (st.kn s (.bool false)) o fun z => evalOps P env ops r (ib + 16) z k
            | true => evalOps P env ops r (ib + 16) ((st.kn s (.bool false)).put o.dst (.tup [])) k)
        | .tup [] => evalOps P env ops r (ib + 16) (st.put o.dst (.tup [])) k
        | _ => none
end
def dstOf (ops : Array Oper) (i : Nat) : Option Nat := (ops[i]?).bind (·.dst)
def unord (b : Array Nat) (n j : Nat) : List Nat :=
  (List.range n).filter fun i => i != j && (!((b.getD j 0).testBit i) && !((b.getD i 0).testBit j))
def idOf : AVal → List Nat
  | .sref id _ _ | .ptr id _ | .eptr id _ _ _ => [id]
  | _ => []
def opWith (ops : Array Oper) (s : Nat) : Option Nat := (List.range ops.size).find? fun i => dstOf ops i == some s
def idRange (base k : Nat) : List Nat := (List.range 16).map (base + 16 * k + ·)
def ptrOf (P : Program) (ops : Array Oper) (st0 : St) : Nat → Operand → Option (Nat × Nat)
  | 0, _ => none
  | d + 1, .tmp s => match opWith ops s with
    | none => match st0.tm s with
      | .ptr id c => some (id, c)
      | _ => none
    | some k => match ((ops[k]?).map (·.op) : Option Op) with
      | some (.move x) | some (.assign x) | some (.nilCheck x) => ptrOf P ops st0 d x
      | some (.fieldAddr T x f) => match ptrOf P ops st0 d x, fieldB P T f with
        | some (id, c), some (off, _) => some (id, c + off)
        | _, _ => none
      | _ => none
  | _ + 1, _ => none
def rowIds (st0 : St) : List Nat → List Nat
  | [] => []
  | i :: r => (match st0.ob i with
    | some (.matH _ _ _ o) => [o]
    | _ => []) ++ rowIds st0 r
def srcIds (P : Program) (ops : Array Oper) (base : Nat) (st0 : St) : Nat → Operand → Option (List Nat)
  | 0, _ => none
  | d + 1, .tmp s => match opWith ops s with
    | none => some (idOf (st0.tm s))
    | some k => match ((ops[k]?).map (·.op) : Option Op) with
      | some (.move x) | some (.assign x) | some (.nilCheck x) | some (.fieldAddr _ x _) | some (.indexAddr _ x _) | some (.slice _ x _ _ _) => srcIds P ops base st0 d x
      | some (.load _ q) => match ptrOf P ops st0 8 q with
        | some (id, c) => match st0.ob id with
          | some (.box cs) => match cs[c]? with
            | some x => some (idOf x)
            | none => none
          | _ => none
        | none => match srcIds P ops base st0 d q with
          | some ids => some (rowIds st0 ids)
          | none => none
      | some (.alloc _) | some (.box _ _) | some (.buildSlice _ _ _) | some (.makeSlice _ _ _) => some (idRange base k)
      | some (.call { callee := .value _, .. }) => some (idRange base k)
      | _ => none
  | _ + 1, _ => some []
def boxIds (st0 : St) : List Nat → List Nat
  | [] => []
  | i :: r => (match st0.ob i with
    | some (.box cs) => i :: cs.flatMap idOf
    | _ => []) ++ boxIds st0 r
def argIds (P : Program) (ops : Array Oper) (base : Nat) (st0 : St) : List Operand → List Nat
  | [] => []
  | x :: r => boxIds st0 ((srcIds P ops base st0 8 x).getD []) ++ argIds P ops base st0 r
def modIds (P : Program) (env : Nat → Option Callee) (ops : Array Oper) (base : Nat) (st0 : St) (o : Oper) : Option (List Nat) :=
  match o.op with
  | .store _ p _ => srcIds P ops base st0 8 p
  | .call c => match c.callee with
    | .builtin .append => match c.args.toList with
      | x :: _ => srcIds P ops base st0 8 x
      | _ => none
    | .value (.func g) => match env g with
      | some cl => if cl.own.any (fun b => b) then none else some (argIds P ops base st0 c.args.toList)
      | none => none
    | .value (.tmp t) => match st0.tm t with
      | .fn g caps => match env g with
        | some cl => match cl.gp with
          | [] => if cl.own.any (fun b => b) then none else some (argIds P ops base st0 c.args.toList ++ boxIds st0 (caps.flatMap idOf))
          | _ :: _ => some (List.range st0.nx)
        | none => none
      | .cfn _ _ => some (List.range st0.nx)
      | _ => match opWith ops t with
        | some _ => some (List.range st0.nx)
        | none => some []
    | _ => some []
  | _ => some []
def hidOf (P : Program) (env : Nat → Option Callee) (ops : Array Oper) (base : Nat) (st0 : St) : List Nat → Option (List Nat)
  | [] => some []
  | u :: us => match (ops[u]?).map (modIds P env ops base st0) with
    | some (some a) => match hidOf P env ops base st0 us with
      | some b => some (a ++ b)
      | none => none
    | _ => none
def maskSt (ops : Array Oper) (base : Nat) (us hid : List Nat) (st : St) : St :=
  { st with
    pr := []
    tm := fun t => bif us.any (fun i => dstOf ops i == some t) then .undef else st.tm t
    ob := fun i => bif us.any (fun u => decide (base + 16 * u ≤ i) && decide (i < base + 16 * (u + 1))) || hid.contains i then none else st.ob i }
def updOk (base j : Nat) (us ms hid : List Nat) (d : Delta) : Bool :=
  d.upd.all fun p => (decide (base + 16 * j ≤ p.1) && decide (p.1 < base + 16 * (j + 1))) ||
    (ms.contains p.1 && (!hid.contains p.1 && !us.any fun u => decide (base + 16 * u ≤ p.1) && decide (p.1 < base + 16 * (u + 1))))
def drawnOk (ops : Array Oper) (b : Array Nat) : Bool :=
  decide (ops.toList.Pairwise fun x y => x.dst = none ∨ x.dst ≠ y.dst) && (List.range ops.size).all fun j => match ops[j]? with
    | some o => (o.after.toList.all fun e => !Region.binds .any e || decide (e.on < j)) && (match o.guard with
      | some (g, _) => (b.getD j 0).testBit g
      | none => true)
    | none => false
noncomputable def eqP {α : Type} (a b : α) : Bool := @decide (a = b) (Classical.propDecidable _)
def kcGet (kc : List (Nat × Nat)) (st0 : St) (id c : Nat) : Option AVal :=
  bif kc.any fun p => p.1 == id && p.2 == c then
    match st0.ob id with
    | some (.box cs) => match cs[c]? with
      | some (.sl T l) => some (.sl T l)
      | _ => none
    | _ => none
  else none
noncomputable def eqSl : Option AVal → Option AVal → Bool
  | some (.sl T l), some (.sl U m) => if h : T = U then eqP (Ty.castL h l) m else false
  | _, _ => false
def kcRow (u : List (Nat × Option Obj)) (id c : Nat) : Option AVal :=
  match obUpd (fun _ => none) u id with
  | some (.box cs) => cs[c]?
  | _ => none
noncomputable def keepOk (st0 : St) (kc : List (Nat × Nat)) (d : Delta) : Bool :=
  kc.all fun p => bif d.upd.any (fun q => q.1 == p.1) then eqSl (kcRow d.upd p.1 p.2) (kcGet kc st0 p.1 p.2) else true
def kcOf (st : St) : List (Nat × Nat) → List (Nat × Nat)
  | [] => []
  | (t, c) :: r => match st.tm t with
    | .ptr id c0 => (id, c0 + c) :: kcOf st r
    | _ => kcOf st r
def litRo (ops : Array Oper) (j : Nat) : Bool :=
  match ops[j]? with
  | some o => match o.op, o.dst with
    | .buildSlice _ n _, some s => decide (2 ≤ n) && ops.toList.any fun o' => match o'.op with
      | .call c => match c.callee with
        | .value _ => c.args.toList.any fun x => match x with
          | .tmp t => t == s
          | _ => false
        | _ => false
      | _ => false
    | _, _ => false
  | none => false
def litK (d : Delta) : Option Delta :=
  match d.upd with
  | [(_, some (.sl E l))] => some ⟨.sl E l, []⟩
  | _ => none
section
variable {R : Type}
def evalOpJ (P : Program) (env : Nat → Option Callee) (ops : Array Oper) (st0 : St) (kc : List (Nat × Nat)) (j ib : Nat) (st : St) (o : Oper) (k : Delta → Option R) : Option R :=
  match litRo ops j, o.op with
  | true, .buildSlice _ _ _ => evalOp P env ib st o fun d => (litK d).bind k
  | _, .load T q => match kc with
    | [] => evalOp P env ib st o k
    | _ :: _ => match isAggB P T, sizeB P T, ev st q with
      | some false, some _, .ptr id c => match kcGet kc st0 id c with
        | some x => k ⟨x, []⟩
        | none => evalOp P env ib st o k
      | _, _, _ => evalOp P env ib st o k
  | _, _ => evalOp P env ib st o k
noncomputable def evalD1 (P : Program) (env : Nat → Option Callee) (ops : Array Oper) (b : Array Nat) (st0 : St) (kc : List (Nat × Nat)) (j : Nat) (o : Oper) (st : St) (k : Delta → Option R) : Option R :=
  let us := unord b ops.size j
  match hidOf P env ops st0.nx st0 us, (if us.isEmpty then some [] else modIds P env ops st0.nx st0 o) with
  | some hid, some ms => evalOpJ P env ops st0 kc j (st0.nx + 16 * j) (maskSt ops st0.nx us hid st) o fun d => bif us.isEmpty || updOk st0.nx j us ms hid d then (bif keepOk st0 kc d then k d else none) else none
  | _, _ => none
noncomputable def evalD (P : Program) (env : Nat → Option Callee) (ops : Array Oper) (b : Array Nat) (st0 : St) (kc : List (Nat × Nat)) : List Oper → Nat → St → (St → Option R) → Option R
  | [], _, st, k => k st
  | o :: r, j, st, k => match o.guard with
    | none => evalD1 P env ops b st0 kc j o st fun d => evalD P env ops b st0 kc r (j + 1) (st.app o.dst d) k
    | some (g, want) => match (ops[g]?).bind (·.dst) with
      | none => none
      | some s => match ev st (.tmp s) with
        | .bool c => cond c
          (match want with
            | true => evalD1 P env ops b st0 kc j o (st.kn s (.bool true)) fun d => evalD P env ops b st0 kc r (j + 1) ((st.kn s (.bool true)).app o.dst d) k
            | false => evalD P env ops b st0 kc r (j + 1) ((st.kn s (.bool true)).put o.dst (.tup [])) k)
          (match want with
            | false => evalD1 P env ops b st0 kc j o (st.kn s (.bool false)) fun d => evalD P env ops b st0 kc r (j + 1) ((st.kn s (.bool false)).app o.dst d) k
            | true => evalD P env ops b st0 kc r (j + 1) ((st.kn s (.bool false)).put o.dst (.tup [])) k)
        | .tup [] => evalD P env ops b st0 kc r (j + 1) (st.put o.dst (.tup [])) k
        | _ => none
end
inductive Sel where
  | slot (s : Nat) | cell (s c : Nat) | fld (s c : Nat)
inductive Pre where
  | own (s : Sel) (T : Ty) | ownm (s : Sel) (T : Ty) | ro (s : Sel) (T : Ty) | frz (s : Sel) | win (s : Sel) | take (s ix : Sel)
structure GCH where
  slots : List Nat
  sels : List Sel
  pr : List Nat := []
  pre : List Pre := []
structure Can where
  slots : List (Nat × AVal)
  objs : List Obj
  pr : List Nat := []
def idOf1 : AVal → Option Nat
  | .sref id _ _ | .ptr id _ | .eptr id _ _ _ => some id
  | _ => none
def selId (st : St) : Sel → Option Nat
  | .slot s => idOf1 (st.tm s)
  | .cell s c => match st.tm s with
    | .ptr id _ => match st.ob id with
      | some (.box cs) => match cs[c]? with
        | some x => idOf1 x
        | none => none
      | _ => none
    | _ => none
  | .fld s c => match st.tm s with
    | .agg cs => match cs[c]? with
      | some x => idOf1 x
      | none => none
    | _ => none
def selIds (st : St) : List Sel → Option (List Nat)
  | [] => some []
  | x :: r => match selId st x with
    | some i => match selIds st r with
      | some is => some (i :: is)
      | none => none
    | none => none
def renP (ids : List Nat) : List AVal → Option (List AVal)
  | [] => some []
  | .ptr id c :: r => match ids.idxOf? id, renP ids r with
    | some k, some r' => some (.ptr k c :: r')
    | _, _ => none
  | _ :: _ => none
def renV1 (ids : List Nat) : AVal → AVal
  | .sref id r w => match ids.idxOf? id with
    | some k => .sref k r w
    | none => .undef
  | .ptr id c => match ids.idxOf? id with
    | some k => .ptr k c
    | none => .undef
  | .eptr id r i c => match ids.idxOf? id with
    | some k => .eptr k r i c
    | none => .undef
  | .fn f caps => match renP ids caps with
    | some cs => .fn f cs
    | none => .undef
  | .agg _ | .tup _ | .osl _ _ | .omat _ _ | .obox _ => .undef
  | x => x
def renV (ids : List Nat) : AVal → AVal
  | .agg cs => .agg (cs.map (renV1 ids))
  | x => renV1 ids x
def renO (ids : List Nat) : Obj → Obj
  | .box cs => .box (cs.map (renV1 ids))
  | x => x
def getObs (st : St) (ids : List Nat) : List Nat → Option (List Obj)
  | [] => some []
  | i :: r => match st.ob i with
    | some (.matH ..) => none
    | some o => match getObs st ids r with
      | some os => some (renO ids o :: os)
      | none => none
    | none => none
def selV (st : St) : Sel → AVal
  | .slot s => st.tm s
  | .cell s c => match st.tm s with
    | .ptr id _ => match st.ob id with
      | some (.box cs) => cs.getD c .undef
      | _ => .undef
    | _ => .undef
  | .fld s c => match st.tm s with
    | .agg cs => cs.getD c .undef
    | _ => .undef
def setSel (st : St) (v : AVal) : Sel → St
  | .slot s => st.kn s v
  | .cell s c => match st.tm s with
    | .ptr id _ => match st.ob id with
      | some (.box cs) => { st with ob := fun i => if i = id then some (.box (cs.set c v)) else st.ob i }
      | _ => st
    | _ => st
  | .fld s c => match st.tm s with
    | .agg cs => st.kn s (.agg (cs.set c v))
    | _ => st
def pre1 (st : St) : Pre → St
  | .own s T => match selV st s with
    | .nils => setSel { st with ob := (fun i => if i = st.nx then some (.sl T []) else st.ob i), nx := st.nx + 1 } (.sref st.nx none none) s
    | _ => st
  | .ownm s T => match selV st s with
    | .nils => setSel { st with ob := (fun i => if i = st.nx then some (.mat T []) else st.ob i), nx := st.nx + 1 } (.sref st.nx none none) s
    | _ => st
  | .ro s T => match selV st s with
    | .nils => setSel st (.sl T []) s
    | _ => st
  | .frz s => match selV st s with
    | .sref id _ _ => st.frz [id]
    | _ => st
  | .win s => match selV st s with
    | .sref id none none => match full st id none with
      | some ⟨_, l⟩ => setSel st (.sref id none (some (0, l.length))) s
      | none => st
    | _ => st
  | .take s ix => match selV st s, selV st ix with
    | .sref id none none, .int _ n => match st.ob id with
      | some (.mat T l) => { st.kill id with ob := (fun j => if j = st.nx then some (.sl T (l.getD n.toNat [])) else if j = id then some (.matH T l n.toNat st.nx) else (st.kill id).ob j), nx := st.nx + 1 }
      | _ => st
    | _, _ => st
def pres (st : St) : List Pre → St
  | [] => st
  | p :: r => pres (pre1 st p) r
def gc0 (h : GCH) (st : St) : Option Can :=
  match selIds st h.sels with
  | some ids => match decide ids.Nodup with
    | true => match getObs st ids ids with
      | some os => match h.pr.all fun k => st.pr.contains k with
        | true => some ⟨h.slots.map fun s => (s, renV ids (st.tm s)), os, h.pr⟩
        | false => none
      | none => none
    | false => none
  | none => none
def gc (h : GCH) (st : St) : Option Can := gc0 h (pres st h.pre)
def lookS : List (Nat × AVal) → Nat → AVal
  | [], _ => .undef
  | (s, v) :: r, t => if t = s then v else lookS r t
def ofCan (n : Nat) (c : Can) : St := { tm := lookS c.slots, ob := fun i => c.objs[i]?, nx := c.objs.length, n := n, pr := c.pr }
inductive Ex where
  | normal | exit (id : Nat) | ret
  deriving DecidableEq
structure Loop where
  h : GCH
  ho : Ex → GCH
  X : Type
  Y : Type
  inn : Can → Option X
  G : X → Option Y
  out : X → Y → Ex × Can
  elim : {R : Type} → X → Y → (Ex → Can → Option R) → Option R
  law : ∀ {R : Type} (x : X) (y : Y) (K : Ex → Can → Option R), elim x y K = K (out x y).1 (out x y).2
structure Ora where
  lo : Nat → Option Loop
  fz : Nat → List Pre := fun _ => []
  kc : Nat → List (Nat × Nat) := fun _ => []
  fin : List Pre := []
def keyOf : Code → Nat
  | .region i _ _ => i
  | .block _ b => keyOf b
  | .seq a b => match a with
    | .skip => keyOf b
    | a => keyOf a
  | _ => 0
section
variable {R : Type}
noncomputable def evalCode (P : Program) (env : Nat → Option Callee) (or : Ora) : Code → St → (Ex → St → Option R) → Option R
  | .skip, st, K => K .normal st
  | .region i ops draw, st, K => match draw with
    | false => evalOps P env ops ops.toList (pres st (or.fz i)).nx (pres st (or.fz i)) fun s => K .normal { s with nx := (pres st (or.fz i)).nx + 16 * ops.size }
    | true => bif drawnOk ops (Region.before ops) then evalD P env ops (Region.before ops) (pres st (or.fz i)) (kcOf (pres st (or.fz i)) (or.kc i)) ops.toList 0 (pres st (or.fz i)) fun s => K .normal { s with nx := (pres st (or.fz i)).nx + 16 * ops.size } else none
  | .seq a b, st, K => evalCode P env or a st fun e s => match e with
    | .normal => evalCode P env or b s K
    | e => K e s
  | .cond c a b, st, K => match ev st c with
    | .bool t => cond t (evalCode P env or a st K) (evalCode P env or b st K)
    | _ => none
  | .block i b, st, K => evalCode P env or b st fun e s => match e with
    | .exit j => if j = i then K .normal s else K (.exit j) s
    | e => K e s
  | .loop b, st, K => match or.lo (keyOf b) with
    | some L => match gc L.h st with
      | some c => match L.inn c with
        | some x => (L.G x).bind fun y => L.elim x y fun e c => K e (ofCan st.n c)
        | none => none
      | none => none
    | none => none
  | .exit i, st, K => K (.exit i) st
  | .ret, st, K => K .ret st
  | _, _, _ => none
end
noncomputable def loopC (P : Program) (env : Nat → Option Callee) (or : Ora) (b : Code) (h : GCH) (ho : Ex → GCH) (n : Nat) : Nat → Can → Option (Ex × Can)
  | 0, _ => none
  | m + 1, c => evalCode P env or b (ofCan n c) fun e s => match e with
    | .normal => match gc h s with
      | some c' => loopC P env or b h ho n m c'
      | none => none
    | e => match gc (ho e) s with
      | some c' => some (e, c')
      | none => none
def resRes (st : St) : AVal → Option AVal
  | .undef => some .undef
  | x => resArg st true x
def resultsA (P : Program) (st : St) : List ResultVar → Option (List AVal)
  | [] => some []
  | .tmp t :: r => match resRes st (ev st (.tmp t)), resultsA P st r with
    | some x, some xs => some (x :: xs)
    | _, _ => none
  | .cell a T :: r => match ev st (.tmp a) with
    | .ptr id 0 => match st.ob id with
      | some (.box cs) => match isAggB P T, decide (sizeB P T = some cs.length) with
        | some true, true => match resCells st true cs, resultsA P st r with
          | some ys, some xs => some (.agg ys :: xs)
          | _, _ => none
        | _, _ => none
      | _ => none
    | _ => none
def resultPrs (st : St) : List ResultVar → List (Nat × Option Nat)
  | [] => []
  | .tmp t :: r => ownArg st (ev st (.tmp t)) ++ resultPrs st r
  | .cell a _ :: r => (match ev st (.tmp a) with
    | .ptr id _ => (match st.ob id with | some (.box cs) => ownIds cs | _ => [])
    | _ => []) ++ resultPrs st r
def tupOf : List AVal → AVal
  | [x] => x
  | xs => .tup xs
def slotsOf : List AVal → Nat → Nat → AVal
  | [], _, _ => .undef
  | x :: r, i, t => if t = i then x else slotsOf r (i + 1) t
def objsOf : List (Nat × Option Obj) → Nat → Option Obj := obUpd fun _ => none
def aftersA (st : St) : List AVal → Nat → Option (List AVal)
  | [], _ => some []
  | d :: ds, k => match isOwn d with
    | true => match aftersA st ds (k + 1) with
      | some ys => match st.pr.contains k, resArg st true (st.tm k) with
        | true, some y => some (y :: ys)
        | _, _ => some (.undef :: ys)
      | none => none
    | false => aftersA st ds (k + 1)
def afterPrs (st : St) : List AVal → Nat → List (Nat × Option Nat)
  | [], _ => []
  | d :: ds, k => match isOwn d with
    | true => match st.pr.contains k, resArg st true (st.tm k) with
      | true, some _ => ownArg st (st.tm k) ++ afterPrs st ds (k + 1)
      | _, _ => afterPrs st ds (k + 1)
    | false => afterPrs st ds (k + 1)
def ownSlots : List AVal → Nat → List Nat
  | [], _ => []
  | d :: ds, k => match isOwn d with
    | true => k :: ownSlots ds (k + 1)
    | false => ownSlots ds (k + 1)
def slotsG (n m : Nat) (vs : List AVal) (t : Nat) : AVal :=
  match decide (t < n) with
  | true => slotsOf (vs.take m) 0 t
  | false => slotsOf (vs.drop m) n t
def aftersG (st : St) (n m : Nat) (args : List AVal) : Option (List AVal) :=
  match aftersA st (args.take m) 0 with
  | some xs => match aftersA st (args.drop m) n with
    | some ys => some (xs ++ ys)
    | none => none
  | none => none
noncomputable def evalBody (P : Program) (env : Nat → Option Callee) (or : Ora) (fn : Func) (c : Code) (args : List AVal) (ng : Nat) : Option (AVal × List AVal) :=
  let (vs, os, m) := instList args 0
  evalCode P env or c { tm := slotsG fn.ntmps (args.length - ng) vs, ob := objsOf os, nx := m, n := fn.ntmps, pr := ownSlots (args.take (args.length - ng)) 0 ++ ownSlots (args.drop (args.length - ng)) fn.ntmps } fun e s => match e with
    | .exit _ => none
    | _ => match resultsA P (pres s or.fin) fn.results.toList, aftersG (pres s or.fin) fn.ntmps (args.length - ng) args with
      | some rs, some as => match decide (((resultPrs (pres s or.fin) fn.results.toList ++ (afterPrs (pres s or.fin) (args.take (args.length - ng)) 0 ++ afterPrs (pres s or.fin) (args.drop (args.length - ng)) fn.ntmps)).map (·.1)).Nodup) with
        | true => some (tupOf rs, as)
        | false => none
      | _, _ => none
noncomputable def evalFn (P : Program) (env : Nat → Option Callee) (or : Ora) (fn : Func) (args : List AVal) (ng : Nat := 0) : Option (AVal × List AVal) :=
  match fn.body with
  | some c => match decide (args.length - ng ≤ fn.ntmps) with
    | true => evalBody P env or fn c args ng
    | false => none
  | none => none
def loopsIn : Code → List Code
  | .seq a b => loopsIn a ++ loopsIn b
  | .cond _ a b => loopsIn a ++ loopsIn b
  | .block _ b => loopsIn b
  | .loop b => b :: loopsIn b
  | _ => []
end Go.OAI
namespace Go.OAI
def NG : Nat := 0
def TT (_ : World) : Prop := True
theorem TT.congr {w w' : World} (_ : ∀ b, b < NG → w'.heap[b]? = w.heap[b]?) (_ : TT w) : TT w' := trivial
def KP (w : World) : Prop := NG ≤ w.heap.size ∧ TT w
theorem KP.none {w : World} : KP w := ⟨Nat.zero_le _, trivial⟩
end Go.OAI
