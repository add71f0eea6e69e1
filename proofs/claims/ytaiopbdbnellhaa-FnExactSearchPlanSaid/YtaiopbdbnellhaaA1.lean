/- The evaluator: regions that draw, code, loops, functions. -/
import Derived.Test.YtaiopbdbnellhaaA0
namespace Go.OAI
set_option linter.unusedVariables false

/-! ### A region that draws its order: each operation sees only what comes before it in every order -/
def dstOf (ops : Array Oper) (i : Nat) : Option Nat := (ops[i]?).bind (·.dst)
def unord (b : Array Nat) (n j : Nat) : List Nat :=
  (List.range n).filter fun i => i != j && (!((b.getD j 0).testBit i) && !((b.getD i 0).testBit j))
def idOf : AVal → List Nat
  | .sref id _ _ | .ptr id _ | .eptr id _ _ _ => [id]
  | _ => []
def opWith (ops : Array Oper) (s : Nat) : Option Nat := (List.range ops.size).find? fun i => dstOf ops i == some s
def idRange (base k : Nat) : List Nat := (List.range 16).map (base + 16 * k + ·)
/-- The objects that an address or a slice may name, known ahead. -/
def srcIds (ops : Array Oper) (base : Nat) (st0 : St) : Nat → Operand → Option (List Nat)
  | 0, _ => none
  | d + 1, .tmp s => match opWith ops s with
    | none => some (idOf (st0.tm s))
    | some k => match ((ops[k]?).map (·.op) : Option Op) with
      | some (.move x) | some (.assign x) | some (.nilCheck x) | some (.fieldAddr _ x _) | some (.indexAddr _ x _) | some (.slice _ x _ _ _) => srcIds ops base st0 d x
      | some (.alloc _) | some (.box _ _) | some (.buildSlice _ _ _) | some (.makeSlice _ _ _) => some (idRange base k)
      | some (.call { callee := .value _, .. }) => some (idRange base k)
      | _ => none
  | _ + 1, _ => some []
/-- What an operation may change or end, known ahead. -/
def modIds (env : Nat → Option Callee) (ops : Array Oper) (base : Nat) (st0 : St) (o : Oper) : Option (List Nat) :=
  match o.op with
  | .store _ p _ => srcIds ops base st0 8 p
  | .call c => match c.callee with
    | .builtin .append => match c.args.toList with
      | x :: _ => srcIds ops base st0 8 x
      | _ => none
    | .value (.func g) => match env g with
      | some cl => if cl.own.any (fun b => b) then none else some []
      | none => none
    | _ => some []
  | _ => some []
def hidOf (env : Nat → Option Callee) (ops : Array Oper) (base : Nat) (st0 : St) : List Nat → Option (List Nat)
  | [] => some []
  | u :: us => match (ops[u]?).map (modIds env ops base st0) with
    | some (some a) => match hidOf env ops base st0 us with
      | some b => some (a ++ b)
      | none => none
    | _ => none
def maskSt (ops : Array Oper) (base : Nat) (us hid : List Nat) (st : St) : St :=
  { st with
    pr := []
    tm := fun t => bif us.any (fun i => dstOf ops i == some t) then .undef else st.tm t
    ob := fun i => bif us.any (fun u => decide (base + 16 * u ≤ i) && decide (i < base + 16 * (u + 1))) || hid.contains i then none else st.ob i }
def updOk (base j : Nat) (us ms hid : List Nat) (d : Delta) : Bool :=
  d.upd.all fun p => (decide (base + 16 * j ≤ p.1) && decide (p.1 < base + 16 * (j + 1))) ||
    (ms.contains p.1 && (!hid.contains p.1 && !us.any fun u => decide (base + 16 * u ≤ p.1) && decide (p.1 < base + 16 * (u + 1))))
/-- What every region that draws must fulfil, before anything is run. -/
def drawnOk (ops : Array Oper) (b : Array Nat) : Bool :=
  decide (ops.toList.Pairwise fun x y => x.dst = none ∨ x.dst ≠ y.dst) && (List.range ops.size).all fun j => match ops[j]? with
    | some o => (o.after.toList.all fun e => !Region.binds .any e || decide (e.on < j)) && (match o.guard with
      | some (g, _) => (b.getD j 0).testBit g
      | none => true)
    | none => false
section
variable {R : Type}
def evalD1 (P : Program) (env : Nat → Option Callee) (ops : Array Oper) (b : Array Nat) (st0 : St) (j : Nat) (o : Oper) (st : St) (k : Delta → Option R) : Option R :=
  let us := unord b ops.size j
  match hidOf env ops st0.nx st0 us, (if us.isEmpty then some [] else modIds env ops st0.nx st0 o) with
  | some hid, some ms => evalOp P env (st0.nx + 16 * j) (maskSt ops st0.nx us hid st) o fun d => bif us.isEmpty || updOk st0.nx j us ms hid d then k d else none
  | _, _ => none
def evalD (P : Program) (env : Nat → Option Callee) (ops : Array Oper) (b : Array Nat) (st0 : St) : List Oper → Nat → St → (St → Option R) → Option R
  | [], _, st, k => k st
  | o :: r, j, st, k => match o.guard with
    | none => evalD1 P env ops b st0 j o st fun d => evalD P env ops b st0 r (j + 1) (st.app o.dst d) k
    | some (g, want) => match (ops[g]?).bind (·.dst) with
      | none => none
      | some s => match st.tm s with
        | .bool c => cond c
          (match want with
            | true => evalD1 P env ops b st0 j o (st.kn s (.bool true)) fun d => evalD P env ops b st0 r (j + 1) ((st.kn s (.bool true)).app o.dst d) k
            | false => evalD P env ops b st0 r (j + 1) ((st.kn s (.bool true)).put o.dst (.tup [])) k)
          (match want with
            | false => evalD1 P env ops b st0 j o (st.kn s (.bool false)) fun d => evalD P env ops b st0 r (j + 1) ((st.kn s (.bool false)).app o.dst d) k
            | true => evalD P env ops b st0 r (j + 1) ((st.kn s (.bool false)).put o.dst (.tup [])) k)
        | .tup [] => evalD P env ops b st0 r (j + 1) (st.put o.dst (.tup [])) k
        | _ => none
end

/-! ### Loops: the state at the head, with the frame's objects numbered anew -/
inductive Sel where
  | slot (s : Nat) | cell (s c : Nat) | fld (s c : Nat)
/-- Ahead of a loop's head or of the end: a nil slice becomes an empty one of the frame's own, or an empty one that is only read; a slice of the frame's own is only read from then on. -/
inductive Pre where
  | own (s : Sel) (T : Ty) | ownm (s : Sel) (T : Ty) | ro (s : Sel) (T : Ty) | frz (s : Sel) | win (s : Sel)
structure GCH where
  slots : List Nat
  sels : List Sel
  pr : List Nat := []
  pre : List Pre := []
structure Can where
  slots : List (Nat × AVal)
  objs : List Obj
  pr : List Nat := []
def idOf1 : AVal → Option Nat
  | .sref id _ _ | .ptr id _ | .eptr id _ _ _ => some id
  | _ => none
def selId (st : St) : Sel → Option Nat
  | .slot s => idOf1 (st.tm s)
  | .cell s c => match st.tm s with
    | .ptr id _ => match st.ob id with
      | some (.box cs) => match cs[c]? with
        | some x => idOf1 x
        | none => none
      | _ => none
    | _ => none
  | .fld s c => match st.tm s with
    | .agg cs => match cs[c]? with
      | some x => idOf1 x
      | none => none
    | _ => none
def selIds (st : St) : List Sel → Option (List Nat)
  | [] => some []
  | x :: r => match selId st x with
    | some i => match selIds st r with
      | some is => some (i :: is)
      | none => none
    | none => none
def idx (ids : List Nat) (id : Nat) : Option Nat := ids.idxOf? id
def renV1 (ids : List Nat) : AVal → AVal
  | .sref id r w => match ids.idxOf? id with
    | some k => .sref k r w
    | none => .undef
  | .ptr id c => match ids.idxOf? id with
    | some k => .ptr k c
    | none => .undef
  | .eptr id r i c => match ids.idxOf? id with
    | some k => .eptr k r i c
    | none => .undef
  | .agg _ | .tup _ | .osl _ _ | .omat _ _ | .obox _ | .fn _ _ => .undef
  | x => x
def renV (ids : List Nat) : AVal → AVal
  | .agg cs => .agg (cs.map (renV1 ids))
  | x => renV1 ids x
def renO (ids : List Nat) : Obj → Obj
  | .box cs => .box (cs.map (renV1 ids))
  | x => x
def getObs (st : St) (ids : List Nat) : List Nat → Option (List Obj)
  | [] => some []
  | i :: r => match st.ob i with
    | some o => match getObs st ids r with
      | some os => some (renO ids o :: os)
      | none => none
    | none => none
/-! ### Objects that are only read from here on -/
def frz1 (st : St) (ids : List Nat) : AVal → AVal
  | .sref id row win => match ids.contains id with
    | true => match full st id row with
      | some ⟨T, l⟩ => .sl T (winL win l)
      | none => .undef
    | false => .sref id row win
  | .eptr id row i c => match ids.contains id with
    | true => .undef
    | false => .eptr id row i c
  | .ptr id c => match ids.contains id with
    | true => .undef
    | false => .ptr id c
  | x => x
def frzV (st : St) (ids : List Nat) : AVal → AVal
  | .agg cs => .agg (cs.map (frz1 st ids))
  | .tup _ => .undef
  | x => frz1 st ids x
def frzO (st : St) (ids : List Nat) : Obj → Obj
  | .box cs => .box (cs.map (frz1 st ids))
  | x => x
def St.frz (st : St) (ids : List Nat) : St :=
  { st with
    tm := fun t => frzV st ids (st.tm t)
    ob := fun i => match ids.contains i with
      | true => none
      | false => match st.ob i with
        | some o => some (frzO st ids o)
        | none => none }
def selV (st : St) : Sel → AVal
  | .slot s => st.tm s
  | .cell s c => match st.tm s with
    | .ptr id _ => match st.ob id with
      | some (.box cs) => cs.getD c .undef
      | _ => .undef
    | _ => .undef
  | .fld s c => match st.tm s with
    | .agg cs => cs.getD c .undef
    | _ => .undef
def setSel (st : St) (v : AVal) : Sel → St
  | .slot s => st.kn s v
  | .cell s c => match st.tm s with
    | .ptr id _ => match st.ob id with
      | some (.box cs) => { st with ob := fun i => if i = id then some (.box (cs.set c v)) else st.ob i }
      | _ => st
    | _ => st
  | .fld s c => match st.tm s with
    | .agg cs => st.kn s (.agg (cs.set c v))
    | _ => st
def pre1 (st : St) : Pre → St
  | .own s T => match selV st s with
    | .nils => setSel { st with ob := (fun i => if i = st.nx then some (.sl T []) else st.ob i), nx := st.nx + 1 } (.sref st.nx none none) s
    | _ => st
  | .ownm s T => match selV st s with
    | .nils => setSel { st with ob := (fun i => if i = st.nx then some (.mat T []) else st.ob i), nx := st.nx + 1 } (.sref st.nx none none) s
    | _ => st
  | .ro s T => match selV st s with
    | .nils => setSel st (.sl T []) s
    | _ => st
  | .frz s => match selV st s with
    | .sref id _ _ => st.frz [id]
    | _ => st
  | .win s => match selV st s with
    | .sref id none none => match full st id none with
      | some ⟨_, l⟩ => setSel st (.sref id none (some (0, l.length))) s
      | none => st
    | _ => st
def pres (st : St) : List Pre → St
  | [] => st
  | p :: r => pres (pre1 st p) r
def gc0 (h : GCH) (st : St) : Option Can :=
  match selIds st h.sels with
  | some ids => match decide ids.Nodup with
    | true => match getObs st ids ids with
      | some os => match h.pr.all fun k => st.pr.contains k with
        | true => some ⟨h.slots.map fun s => (s, renV ids (st.tm s)), os, h.pr⟩
        | false => none
      | none => none
    | false => none
  | none => none
def gc (h : GCH) (st : St) : Option Can := gc0 h (pres st h.pre)
def lookS : List (Nat × AVal) → Nat → AVal
  | [], _ => .undef
  | (s, v) :: r, t => if t = s then v else lookS r t
def ofCan (n : Nat) (c : Can) : St := { tm := lookS c.slots, ob := fun i => c.objs[i]?, nx := c.objs.length, n := n, pr := c.pr }

inductive Ex where
  | normal | exit (id : Nat) | ret
  deriving DecidableEq

structure Loop where
  h : GCH
  ho : Ex → GCH
  X : Type
  Y : Type
  inn : Can → Option X
  G : X → Option Y
  out : X → Y → Ex × Can
  elim : {R : Type} → X → Y → (Ex → Can → Option R) → Option R
  law : ∀ {R : Type} (x : X) (y : Y) (K : Ex → Can → Option R), elim x y K = K (out x y).1 (out x y).2

/-- What the walk is told: the loops; what is done ahead of which region. -/
structure Ora where
  lo : Nat → Option Loop
  fz : Nat → List Pre := fun _ => []
  fin : List Pre := []

/-- A loop's number: that of the first region in its body. -/
def keyOf : Code → Nat
  | .region i _ _ => i
  | .block _ b => keyOf b
  | .seq a b => match a with
    | .skip => keyOf b
    | a => keyOf a
  | _ => 0

section
variable {R : Type}
def evalCode (P : Program) (env : Nat → Option Callee) (or : Ora) : Code → St → (Ex → St → Option R) → Option R
  | .skip, st, K => K .normal st
  | .region i ops draw, st, K => match draw with
    | false => evalOps P env ops ops.toList (pres st (or.fz i)).nx (pres st (or.fz i)) fun s => K .normal { s with nx := (pres st (or.fz i)).nx + 16 * ops.size }
    | true => bif drawnOk ops (Region.before ops) then evalD P env ops (Region.before ops) (pres st (or.fz i)) ops.toList 0 (pres st (or.fz i)) fun s => K .normal { s with nx := (pres st (or.fz i)).nx + 16 * ops.size } else none
  | .seq a b, st, K => evalCode P env or a st fun e s => match e with
    | .normal => evalCode P env or b s K
    | e => K e s
  | .cond c a b, st, K => match ev st c with
    | .bool t => cond t (evalCode P env or a st K) (evalCode P env or b st K)
    | _ => none
  | .block i b, st, K => evalCode P env or b st fun e s => match e with
    | .exit j => if j = i then K .normal s else K (.exit j) s
    | e => K e s
  | .loop b, st, K => match or.lo (keyOf b) with
    | some L => match gc L.h st with
      | some c => match L.inn c with
        | some x => (L.G x).bind fun y => L.elim x y fun e c => K e (ofCan st.n c)
        | none => none
      | none => none
    | none => none
  | .exit i, st, K => K (.exit i) st
  | .ret, st, K => K .ret st
  | _, _, _ => none
end

def loopC (P : Program) (env : Nat → Option Callee) (or : Ora) (b : Code) (h : GCH) (ho : Ex → GCH) (n : Nat) : Nat → Can → Option (Ex × Can)
  | 0, _ => none
  | m + 1, c => evalCode P env or b (ofCan n c) fun e s => match e with
    | .normal => match gc h s with
      | some c' => loopC P env or b h ho n m c'
      | none => none
    | e => match gc (ho e) s with
      | some c' => some (e, c')
      | none => none

/-! ### Functions -/
def resultsA (P : Program) (st : St) : List ResultVar → Option (List AVal)
  | [] => some []
  | .tmp t :: r => match resArg st true (st.tm t), resultsA P st r with
    | some x, some xs => some (x :: xs)
    | _, _ => none
  | .cell a T :: r => match st.tm a with
    | .ptr id 0 => match st.ob id with
      | some (.box cs) => match isAggB P T, decide (sizeB P T = some cs.length) with
        | some true, true => match resCells st true cs, resultsA P st r with
          | some ys, some xs => some (.agg ys :: xs)
          | _, _ => none
        | _, _ => none
      | _ => none
    | _ => none
def resultPrs (st : St) : List ResultVar → List (Nat × Option Nat)
  | [] => []
  | .tmp t :: r => ownArg st (st.tm t) ++ resultPrs st r
  | .cell a _ :: r => (match st.tm a with
    | .ptr id _ => (match st.ob id with | some (.box cs) => ownIds cs | _ => [])
    | _ => []) ++ resultPrs st r
def tupOf : List AVal → AVal
  | [x] => x
  | xs => .tup xs
def slotsOf : List AVal → Nat → Nat → AVal
  | [], _, _ => .undef
  | x :: r, i, t => if t = i then x else slotsOf r (i + 1) t
def objsOf : List (Nat × Option Obj) → Nat → Option Obj := obUpd fun _ => none
/-- The arguments that were handed over with their memory, as they are in the end; what is not to be had any more is no more. -/
def aftersA (st : St) : List AVal → Nat → Option (List AVal)
  | [], _ => some []
  | d :: ds, k => match isOwn d with
    | true => match aftersA st ds (k + 1) with
      | some ys => match st.pr.contains k, resArg st true (st.tm k) with
        | true, some y => some (y :: ys)
        | _, _ => some (.undef :: ys)
      | none => none
    | false => aftersA st ds (k + 1)
def afterPrs (st : St) : List AVal → Nat → List (Nat × Option Nat)
  | [], _ => []
  | d :: ds, k => match isOwn d with
    | true => match st.pr.contains k, resArg st true (st.tm k) with
      | true, some _ => ownArg st (st.tm k) ++ afterPrs st ds (k + 1)
      | _, _ => afterPrs st ds (k + 1)
    | false => afterPrs st ds (k + 1)
def ownSlots : List AVal → Nat → List Nat
  | [], _ => []
  | d :: ds, k => match isOwn d with
    | true => k :: ownSlots ds (k + 1)
    | false => ownSlots ds (k + 1)
def evalBody (P : Program) (env : Nat → Option Callee) (or : Ora) (fn : Func) (c : Code) (args : List AVal) : Option (AVal × List AVal) :=
  let (vs, os, m) := instList args 0
  evalCode P env or c { tm := slotsOf vs 0, ob := objsOf os, nx := m, n := fn.ntmps, pr := ownSlots args 0 } fun e s => match e with
    | .exit _ => none
    | _ => match resultsA P (pres s or.fin) fn.results.toList, aftersA (pres s or.fin) args 0 with
      | some rs, some as => match decide (((resultPrs (pres s or.fin) fn.results.toList ++ afterPrs (pres s or.fin) args 0).map (·.1)).Nodup) with
        | true => some (tupOf rs, as)
        | false => none
      | _, _ => none
def evalFn (P : Program) (env : Nat → Option Callee) (or : Ora) (fn : Func) (args : List AVal) : Option (AVal × List AVal) :=
  match fn.body with
  | some c => match decide (args.length ≤ fn.ntmps) with
    | true => evalBody P env or fn c args
    | false => none
  | none => none
/-- The loops of a code, from the outside to the inside, in the order of the text. -/
def loopsIn : Code → List Code
  | .seq a b => loopsIn a ++ loopsIn b
  | .cond _ a b => loopsIn a ++ loopsIn b
  | .block _ b => loopsIn b
  | .loop b => b :: loopsIn b
  | _ => []
def loopAt (fn : Func) (i : Nat) : Code :=
  match fn.body with
  | some c => (loopsIn c).getD i .skip
  | none => .skip
end Go.OAI
