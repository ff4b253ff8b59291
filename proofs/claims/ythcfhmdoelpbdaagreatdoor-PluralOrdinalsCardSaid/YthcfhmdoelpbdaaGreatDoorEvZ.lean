/- The evaluator: code, calls, loops over functions. -/
import Derived.Test.YthcfhmdoelpbdaaGreatDoorEvY
namespace Go.Ev
set_option linter.unusedVariables false
set_option linter.unusedSimpArgs false
open Go

/-- Beside the program: how many numbers of blocks are the package-level variables'; contracts of functions; what functions without a body do. -/
structure Cfg where
  P : Program
  NG : Nat
  orc : FuncId → List Value → Option Value
  ext : FuncId → List Value → Option Value

inductive AEx where
  | normal
  | exit (id : Nat)
  | ret

abbrev Self := Option Nat → Code → AFr → Heap → Option (AEx × AFr × Heap)

def Tr.ofList : Nat → List Value → Tr → Tr
  | _, [], t => t
  | i, v :: r, t => Tr.ofList (i + 1) r (t.set 20 i v)

/-- What a function hands back. -/
def ares (C : Cfg) (fr : AFr) (H : Heap) : List ResultVar → Option (List Value)
  | [] => some []
  | .tmp t :: r => match ares C fr H r with
    | some l => some (fr.tr.get t :: l)
    | none => none
  | .cell a t :: r => match aload C.P t H (fr.tr.get a), ares C fr H r with
    | some v, some l => some (v :: l)
    | _, _ => none

def aone : List Value → Value
  | [v] => v
  | l => .tuple l.toArray

/-- The marks that loops over functions have left are taken up, one by one. -/
def amarks (H : Heap) : List Nat → Option Heap
  | [] => some H
  | r :: l => match look H r with
    | some .deferred => cond (Nat.ble H.wmin r) (amarks (H.put r .deferred .dead) l) none
    | _ => none

def abody (C : Cfg) (self : Self) (fn : Func) (c : Code) (args : List Value) (H : Heap) : Option (Value × Heap) :=
  cond (Nat.ble fn.ntmps 100000 && Nat.ble args.length 1000)
    (match self none c ⟨Tr.ofList 0 args .nil, args.length + (fn.ntmps - args.length), []⟩ H with
     | some (.exit _, _, _) => none
     | some (_, fr, H1) => match amarks H1 fr.marks with
       | some H2 => match ares C fr H2 fn.results.toList with
         | some l => some (aone l, H2)
         | none => none
       | none => none
     | none => none) none

def acallF (C : Cfg) (self : Self) (f : FuncId) (args : List Value) (H : Heap) : Option (Value × Heap) :=
  match C.P.funcs[f]? with
  | none => none
  | some fn => match fn.body with
    | none => match C.ext f args with
      | some v => some (v, H)
      | none => none
    | some c => cond (fn.name == "runtime.NumGoroutine") none
      (match C.orc f args with
       | some v => some (v, H)
       | none => abody C self fn c args H)

def putParams : List Tmp → List Value → AFr → Option AFr
  | [], [], fr => some fr
  | t :: ts, v :: vs, fr => putParams ts vs (fr.put (some t) v)
  | _, _, _ => none

def jumpOf : AEx → Option Code
  | .normal => none
  | .ret => some .ret
  | .exit id => some (.exit id)

/-- One round of a loop over a function. -/
def ayield (self : Self) (l : Nat) (args : List Value) (H : Heap) : Option (Value × Heap) :=
  match look H l with
  | some (.loop _ _ tr n params assign body _) => match putParams params.toList args ⟨tr, n, []⟩ with
    | some fr0 => match self (some l) assign fr0 H with
      | some (.normal, fr1, H1) => match look H1 l with
        | some (.loop .ready p1 tr1 n1 ps1 as1 bd1 d1) => cond (Nat.ble H1.wmin l)
          (match self (some l) body fr1 (H1.put l (.loop .ready p1 tr1 n1 ps1 as1 bd1 d1) (.loop .busy p1 tr1 n1 ps1 as1 bd1 d1)) with
           | some (ex, _, H2) => match look H2 l with
             | some (.loop st2 p2 tr2 n2 ps2 as2 bd2 d2) => cond (Nat.ble H2.wmin l)
               (match jumpOf ex with
                | none => some (.bool true, H2.put l (.loop st2 p2 tr2 n2 ps2 as2 bd2 d2) (.loop .ready none tr2 n2 ps2 as2 bd2 d2))
                | some c => some (.bool false, H2.put l (.loop st2 p2 tr2 n2 ps2 as2 bd2 d2) (.loop .done (some c) tr2 n2 ps2 as2 bd2 d2))) none
             | _ => none
           | none => none) none
        | _ => none
      | _ => none
    | none => none
  | _ => none

def acall (C : Cfg) (self : Self) (fv : Value) (args : List Value) (H : Heap) : Option (Value × Heap) :=
  match fv with
  | .func (.func f) first captured => acallF C self f (first.toList ++ (args ++ captured.toList)) H
  | .func (.yield l) ⟨[]⟩ ⟨[]⟩ => ayield self l args H
  | _ => none

/-- A guard's word. -/
def awanted (ops : List Oper) (fr : AFr) (o : Oper) : Option Bool :=
  match o.guard with
  | none => some true
  | some (g, want) => match ops[g]? with
    | none => some false
    | some og => match og.dst with
      | none => some false
      | some t => match fr.tr.get t with
        | .bool b => some (b == want)
        | .tuple _ => some false
        | _ => none

def aoper (C : Cfg) (self : Self) (ev : Operand → Option Value) (H : Heap) (op : Op) : Option (Value × Heap) :=
  match aheap C.P ev H op with
  | some r => some r
  | none => match op with
    | .call c => match c.callee with
      | .value f => match ev f, evL ev c.args.toList with
        | some fv, some vs => acall C self fv vs H
        | _, _ => none
      | _ => none
    | _ => none

def aops (C : Cfg) (self : Self) (ops : List Oper) : List Oper → AFr → Heap → Option (AFr × Heap)
  | [], fr, H => some (fr, H)
  | o :: rest, fr, H => match awanted ops fr o with
    | some true => match apure C.P (fr.eval C.NG) o.op with
      | some v => aops C self ops rest (fr.put o.dst v) H
      | none => match aoper C self (fr.eval C.NG) H o.op with
        | some (v, H') => aops C self ops rest (fr.put o.dst v) H'
        | none => none
    | some false => aops C self ops rest (fr.put o.dst undef) H
    | none => none

/-! ### Regions whose order is open -/

/-- Of each operation: which others come before it in any case, as bits. -/
def befores : List Oper → List Nat → Option (List Nat)
  | [], acc => some acc
  | o :: r, acc => match (o.after.toList.filter (Region.binds .any)).foldl (fun (m : Option Nat) e => match m, acc[e.on]? with
      | some m, some b => some (m ||| (2 ^ e.on) ||| b)
      | _, _ => none) (some 0) with
    | some m => befores r (acc ++ [m])
    | none => none

/-- Operations of a region that are not bound to come one behind the other have no temporary in common. -/
def apartAll (ops : List Oper) (arr : Array Oper) (bs : List Nat) : Bool :=
  (List.range ops.length).all fun j => (List.range j).all fun i =>
    match ops[i]?, ops[j]?, bs[j]? with
    | some oi, some oj, some b => b.testBit i || oi.apart arr oj
    | _, _, _ => false

/-- A store, or what is like it. -/
def isWriter : Op → Bool
  | .store _ _ _ | .mapUpdate _ _ _ _ | .insert _ _ _ _ | .mapEntry _ _ _ | .entryStore _ _ _ _ | .next _ _ => true
  | .call c => match c.callee with
    | .builtin .append | .builtin .copy | .builtin .delete => true
    | _ => false
  | _ => false

/-- May it look into memory? -/
def mayLook : Op → Bool
  | .move _ | .assign _ | .pick _ _ _ | .build _ _ | .nilCheck _ | .binOp _ _ _ _ _ | .unOp _ _ _ | .makeInterface _ _ | .makeFunc _ _ _ | .fieldAddr _ _ _ | .field _ _ _
  | .indexAddr _ _ _ | .index _ _ _ | .extract _ _ => false
  | _ => true

def isCall : Op → Bool
  | .call c => match c.callee with
    | .builtin _ => false
    | _ => true
  | _ => false

/-- Are all operations that may look into memory bound to come before or behind number i? -/
def barrier (ops : List Oper) (bs : List Nat) (i : Nat) : Bool :=
  (List.range ops.length).all fun j => match ops[j]?, bs[i]?, bs[j]? with
    | some oj, some bi, some bj => Nat.beq i j || !mayLook oj.op || bi.testBit j || bj.testBit i
    | _, _, _ => false

structure Rec where
  i : Nat
  lo : Nat
  hi : Nat
  wr : Bool

def unordered (b : Nat) : List Rec → List Rec
  | [] => []
  | r :: l => cond (b.testBit r.i) (unordered b l) (r :: unordered b l)

def looksOf (arr : Array Oper) (o : Oper) : List Nat := o.looksAt arr

def AFr.evalM (NG : Nat) (fr : AFr) (looks : List Nat) : Operand → Option Value
  | .tmp t => cond (memb looks t) (some (fr.tr.get t)) none
  | x => fr.eval NG x

def Heap.bump (H : Heap) : Heap := { H with next := H.next + 1 }

/-- One operation of such a region, in the text's order: its value; what it leaves; who looked at memory. -/
def astep (C : Cfg) (self : Self) (ops : List Oper) (arr : Array Oper) (bs : List Nat) (o : Oper) (i : Nat) (fr : AFr) (H : Heap) (recs : List Rec) : Option (Value × Heap × List Rec) :=
  match awanted ops fr o with
  | some true => match apure C.P (fr.evalM C.NG (looksOf arr o)) o.op with
    | some v => some (v, H, recs)
    | none => match bs[i]? with
      | none => none
      | some b => cond (mayLook o.op)
        (match unordered b recs with
         | [] => cond (isWriter o.op || (isCall o.op && barrier ops bs i))
           (match aoper C self (fr.evalM C.NG (looksOf arr o)) H o.op with
            | some (v, H') => some (v, H'.bump, ⟨i, H.next, H'.next + 1, true⟩ :: recs)
            | none => none)
           (match aoper C self (fr.evalM C.NG (looksOf arr o)) { H with wmin := H.next } o.op with
            | some (v, H') => some (v, { H' with wmin := H.wmin, hide := H.hide, next := H'.next + 1 }, ⟨i, H.next, H'.next + 1, false⟩ :: recs)
            | none => none)
         | u => cond (isWriter o.op || u.any (·.wr)) none
           (match aoper C self (fr.evalM C.NG (looksOf arr o)) { H with wmin := H.next, hide := u.map (fun r => (r.lo, r.hi)) ++ H.hide } o.op with
            | some (v, H') => some (v, { H' with wmin := H.wmin, hide := H.hide, next := H'.next + 1 }, ⟨i, H.next, H'.next + 1, false⟩ :: recs)
            | none => none)) none
  | some false => some (undef, H, recs)
  | none => none

def adraw (C : Cfg) (self : Self) (ops : List Oper) (arr : Array Oper) (bs : List Nat) : List Oper → Nat → AFr → Heap → List Rec → Option (AFr × Heap)
  | [], _, fr, H, _ => some (fr, H)
  | o :: rest, i, fr, H, recs => match astep C self ops arr bs o i fr H recs with
    | some (v, H', recs') => adraw C self ops arr bs rest (i + 1) (fr.put o.dst v) H' recs'
    | none => none

def loopN (body : AFr → Heap → Option (AEx × AFr × Heap)) : Nat → AFr → Heap → Option (AEx × AFr × Heap)
  | 0, _, _ => none
  | m + 1, fr, H => match body fr H with
    | some (.normal, fr', H') => loopN body m fr' H'
    | r => r

/-- A function with a body of its own. -/
def bodied (C : Cfg) : Value → Bool
  | .func (.func f) _ _ => match C.P.funcs[f]? with
    | some fn => fn.body.isSome
    | none => false
  | _ => false

def step (C : Cfg) (self : Self) (bound : Nat) (rd : Option Nat) (c : Code) (fr : AFr) (H : Heap) : Option (AEx × AFr × Heap) :=
  match c with
  | .skip => some (.normal, fr, H)
  | .ret => some (.ret, fr, H)
  | .exit id => some (.exit id, fr, H)
  | .seq x y => match self rd x fr H with
    | some (.normal, fr', H') => self rd y fr' H'
    | r => r
  | .cond x p q => match fr.eval C.NG x with
    | some (.bool true) => self rd p fr H
    | some (.bool false) => self rd q fr H
    | _ => none
  | .block id b => match self rd b fr H with
    | some (.exit id', fr', H') => cond (Nat.beq id' id) (some (.normal, fr', H')) (some (.exit id', fr', H'))
    | r => r
  | .loop b => loopN (self rd b) bound fr H
  | .region _ ops false => match aops C self ops.toList ops.toList fr H with
    | some (fr', H') => some (.normal, fr', H')
    | none => none
  | .region _ ops true => match befores ops.toList [] with
    | some bs => cond (apartAll ops.toList ops bs)
      (match adraw C self ops.toList ops bs ops.toList 0 fr H [] with
       | some (fr', H') => some (.normal, fr', H')
       | none => none) none
    | none => none
  | .rangeFunc f params assign body => match fr.eval C.NG f with
    | some fv =>
      let dfr : Option (Nat × Heap × AFr) := match rd with
        | none => some (H.next, H.push .deferred, { fr with marks := H.next :: fr.marks })
        | some l => match look H l with
          | some (.loop _ _ _ _ _ _ _ d) => some (d, H, fr)
          | _ => none
      match dfr with
      | some (d, H1, fr1) =>
        let l := H1.next
        match cond (bodied C fv) (acall C self fv [.func (.yield l) #[] #[]] (H1.push (.loop .ready none fr.tr fr.n params assign body d))) none with
        | some (_, H2) => match look H2 l with
          | some (.loop st p tr n ps as bd d2) => match st with
            | .busy => none
            | _ => cond (Nat.ble H2.wmin l)
              (match p with
               | none => some (.normal, fr1, H2.put l (.loop st p tr n ps as bd d2) (.loop .exhausted p tr n ps as bd d2))
               | some c => self rd c fr1 (H2.put l (.loop st p tr n ps as bd d2) (.loop .exhausted p tr n ps as bd d2))) none
          | _ => none
        | none => none
      | none => none
    | none => none
  | _ => none

def ev (C : Cfg) : Nat → Self
  | 0 => fun _ _ _ _ => none
  | n + 1 => step C (ev C n) 100000

end Go.Ev
