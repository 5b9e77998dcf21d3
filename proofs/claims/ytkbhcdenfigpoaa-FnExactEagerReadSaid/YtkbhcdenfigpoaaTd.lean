/- The data of the program, told as trees. Conditions: none (definitions, lemmas). -/
import Derived.Test.YtkbhcdenfigpoaaMd
import Derived.Test.YtkbhcdenfigpoaaProg
import Derived.KernelRfl
import Derived.Laws.BitsLemmas
set_option linter.all false
namespace Go.Mach.F
open Go Go.Mach Go.Proofs.Try

def rowB (x : UInt8) : List T := [.int .u8 x.toNat]
structure Cf where
  chunks : Int
  size : Int
  slots : Int
  tax : Int
  slice : Int
  gens : Int
deriving DecidableEq, Inhabited
def Cf.cs (x : Cf) : List T := [.int .i64 x.chunks, .int .i64 x.size, .int .i64 x.slots, .int .i64 x.tax, .int .i64 x.slice, .int .i64 x.gens]
structure Hd where
  slot : Int
  gen : Int
deriving DecidableEq, Inhabited
def Hd.cs (x : Hd) : List T := [.int .i64 x.slot, .int .i64 x.gen]
structure Rf where
  h : Hd
  ep : Int
  no : Int
deriving DecidableEq, Inhabited
def Rf.cs (x : Rf) : List T := [.int .i64 x.h.slot, .int .i64 x.h.gen, .int .i64 x.ep, .int .i64 x.no]
structure An where
  code : Int
  h : Hd
  r : Rf
  b : List UInt8
  walk : Int
  tax : Int
  drain : Int
deriving DecidableEq, Inhabited
def An.cs (x : An) : List T := [.int .i64 x.code, .int .i64 x.h.slot, .int .i64 x.h.gen, .int .i64 x.r.h.slot, .int .i64 x.r.h.gen, .int .i64 x.r.ep, .int .i64 x.r.no, eL 1 rowB x.b, .int .i64 x.walk, .int .i64 x.tax, .int .i64 x.drain]
structure Op1 where
  kind : Int
  h : Hd
  r : Rf
  n : Int
  m : Int
  b : List UInt8
deriving DecidableEq, Inhabited
def Op1.cs (x : Op1) : List T := [.int .i64 x.kind, .int .i64 x.h.slot, .int .i64 x.h.gen, .int .i64 x.r.h.slot, .int .i64 x.r.h.gen, .int .i64 x.r.ep, .int .i64 x.r.no, .int .i64 x.n, .int .i64 x.m, eL 1 rowB x.b]
structure Th where
  pos : Int
  len : Int
  run : Int
deriving DecidableEq, Inhabited
def Th.cs (x : Th) : List T := [.int .i64 x.pos, .int .i64 x.len, .int .i64 x.run]
structure Sf where
  b : List UInt8
deriving DecidableEq, Inhabited
def Sf.cs (x : Sf) : List T := [eL 1 rowB x.b]
structure Rm where
  h : Hd
  up : Hd
  kids : List Hd
  ep : Int
  chunks : Int
  cur : Bool
  bump : Int
  things : List Sf
  tags : List Int
deriving DecidableEq, Inhabited
def Rm.cs (x : Rm) : List T := [.int .i64 x.h.slot, .int .i64 x.h.gen, .int .i64 x.up.slot, .int .i64 x.up.gen, eL 2 Hd.cs x.kids, .int .i64 x.ep, .int .i64 x.chunks, .bool x.cur, .int .i64 x.bump, eL 1 Sf.cs x.things, eL 1 rowI x.tags]
structure Ml where
  c : Cf
  rooms : List Rm
  log : List Int
deriving DecidableEq, Inhabited
def Ml.cs (x : Ml) : List T := [.int .i64 x.c.chunks, .int .i64 x.c.size, .int .i64 x.c.slots, .int .i64 x.c.tax, .int .i64 x.c.slice, .int .i64 x.c.gens, eL 11 Rm.cs x.rooms, eL 1 rowI x.log]
structure Pl where
  mem : List UInt8
  st : List Int
  own : List Int
deriving DecidableEq, Inhabited
def Pl.cs (x : Pl) : List T := [eL 1 rowB x.mem, eL 1 rowI x.st, eL 1 rowI x.own]
structure Nd where
  st : Int
  gen : Int
  ep : Int
  up : Int
  upEp : Int
  first : Int
  next : Int
  prev : Int
  chunks : List Int
  cur : Int
  bump : Int
  things : List Th
  tags : List Int
deriving DecidableEq, Inhabited
def Nd.cs (x : Nd) : List T := [.int .i64 x.st, .int .i64 x.gen, .int .i64 x.ep, .int .i64 x.up, .int .i64 x.upEp, .int .i64 x.first, .int .i64 x.next, .int .i64 x.prev, eL 1 rowI x.chunks, .int .i64 x.cur, .int .i64 x.bump, eL 3 Th.cs x.things, eL 1 rowI x.tags]
structure Ws where
  slot : Int
  first : Int
  tags : List Int
  chunks : List Int
  done : Int
deriving DecidableEq, Inhabited
def Ws.cs (x : Ws) : List T := [.int .i64 x.slot, .int .i64 x.first, eL 1 rowI x.tags, eL 1 rowI x.chunks, .int .i64 x.done]
structure Wd where
  c : Cf
  p : Pl
  l : List Nd
  q : List Ws
  log : List Int
deriving DecidableEq, Inhabited
def Wd.cs (x : Wd) : List T := [.int .i64 x.c.chunks, .int .i64 x.c.size, .int .i64 x.c.slots, .int .i64 x.c.tax, .int .i64 x.c.slice, .int .i64 x.c.gens, eL 1 rowB x.p.mem, eL 1 rowI x.p.st, eL 1 rowI x.p.own, eL 13 Nd.cs x.l, eL 5 Ws.cs x.q, eL 1 rowI x.log]
abbrev eI (l : List Int) : T := eL 1 rowI l
abbrev eB (l : List UInt8) : T := eL 1 rowB l
/-! ### arguments and results -/
def aT (t : T) : Arg := (0, (false, [.tr false t]))
def aI (n : Int) : Arg := aT (.int .i64 n)
def aB (b : Bool) : Arg := aT (.bool b)
def aR (cs : List T) : Arg := (0, (true, cs.map fun t => .tr false t))
def lT (t : T) : Arg := (1, (false, [.tr true t]))
def lR (cs : List T) : Arg := (1, (true, cs.map fun t => .tr true t))
def vT (t : T) : Arg := (3, (false, [.tr true t]))
def oT (t : T) : Row := (false, [.tr true t])
def oR (cs : List T) : Row := (true, cs.map fun t => .tr true t)
def nul : Row := (false, [])
theorem mixed : prog.follows .mixedOrders = true := by kernel_rfl
theorem name_ok {fn : Func} (h : decide (fn.name ≠ "runtime.NumGoroutine") = true) : fn.name ≠ "runtime.NumGoroutine" := of_decide_eq_true h
end Go.Mach.F