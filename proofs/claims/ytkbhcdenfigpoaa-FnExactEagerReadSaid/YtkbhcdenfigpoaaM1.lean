/- The abstract machine: trees, states, programs over roots, what each operation does, how code runs. Conditions: none (definitions). -/
import GoSem.Step
import Derived.Laws.BytesArg
import Derived.Laws.Sem
set_option linter.all false
namespace Go.Mach

def slot (t : Nat) : Nat := 4 * t
def box (t : Nat) : Nat := 4 * t + 1
def ext (t : Nat) : Nat := 4 * t + 2
def park (t : Nat) : Nat := 4 * t + 3
abbrev Path := List Nat
/-- Versions: what lies at a path has turned so many times. -/
abbrev Ver := Path → Nat
def z0 : Ver := fun _ => 0
def lenLe : Path → Path → Bool
  | [], _ => true
  | _ :: _, [] => false
  | _ :: q, _ :: p => lenLe q p
/-- May a write at the first path turn what lies at the second? -/
def touch : Path → Path → Bool
  | i :: k :: q, i' :: k' :: p => Nat.beq i i' && (Nat.beq k k' && lenLe q p)
  | [], _ => true
  | [_], _ :: _ => true
  | _, _ => false
def bump (q : Path) (v : Ver) : Ver := fun p => bif touch q p then v p + 1 else v p
def lenLt : Path → Path → Bool
  | _, [] => false
  | [], _ :: _ => true
  | _ :: q, _ :: p => lenLt q p
/-- May what lies under the first path lie at the second? -/
def deep : Path → Path → Bool
  | i :: k :: q, i' :: k' :: p => Nat.beq i i' && (Nat.beq k k' && lenLt q p)
  | [], _ :: _ => true
  | [_], _ :: _ => true
  | _, _ => false
def bumpD (q : Path) (v : Ver) : Ver := fun p => bif deep q p then v p + 1 else v p
/-- A tree: what a cell holds, slices with their content (row, cell). -/
inductive T where
  | int (k : IntKind) (n : Int)
  | bool (b : Bool)
  | str (s : ByteArray)
  | arr (m n : Nat) (f : Nat → Nat → T)
  | hole
  | lent (m n : Nat)
/-- A pointer: to a cell of an array that a root owns, or into memory that nobody writes. -/
inductive Pt where
  | ptr (r : Nat) (ver : Nat) (p : Path) (m j k : Nat)
  | pim (m : Nat) (g : Nat → T)
/-- A cell of a slot or of a box. -/
inductive C where
  | tr (own : Bool) (t : T)
  | ref (r : Nat) (ver : Nat) (p : Path) (m s n : Nat)
  | pt (x : Pt)
  | fn (f : FuncId) (caps : List Pt)
  | dead
abbrev Row := Bool × List C
structure Ct where
  ver : Ver
  rows : List Row
abbrev St := List (Nat × Ct)
def St.get : St → Nat → Ct
  | [], _ => ⟨z0, []⟩
  | (r', c) :: s, r => bif Nat.beq r' r then c else St.get s r
def St.set : St → Nat → Ct → St
  | [], _, _ => []
  | (r', c') :: s, r, c => bif Nat.beq r' r then (r', c) :: s else (r', c') :: St.set s r c
def St.has : St → Nat → Bool
  | [], _ => false
  | (r', _) :: s, r => bif Nat.beq r' r then true else St.has s r
def St.add (σ : St) (r : Nat) : St := bif σ.has r then σ else σ ++ [(r, ⟨z0, []⟩)]
abbrev Log := List (Nat × Bool)
/-- An argument: 0 borrowed, 1 lent, 2 a lent variable (by its pointer), 3 handed over. -/
abbrev Arg := Nat × Row
/-- What a call does: nothing is told, or it hands over these results and these lent rows. -/
abbrev CallK := (R : Type) → R → (List Row → List Row → R) → R
def DetK (c : CallK) : Prop := (∀ R z K, c R z K = z) ∨ ∃ rs outs, ∀ R z K, c R z K = K rs outs
structure Sems where
  md : FuncId → List Nat
  run : FuncId → List Arg → CallK
  det : ∀ f as, DetK (run f as)
/-- Programs over the roots. -/
inductive Pr (α : Type) where
  | ret (a : α)
  | rd (r : Nat) (k : Ct → Pr α)
  | wr (r : Nat) (c : Ct) (k : Pr α)
  | call (f : FuncId) (args : List Arg) (k : List Row → List Row → Pr α)
  | ask (f : FuncId) (k : List Nat → Pr α)
  | br (b : Bool) (x y : Pr α)
  | fail
namespace Pr
def bind {α β : Type} : Pr α → (α → Pr β) → Pr β
  | ret a, g => g a
  | rd r k, g => rd r fun c => (k c).bind g
  | wr r c k, g => wr r c (k.bind g)
  | call f a k, g => call f a fun c o => (k c o).bind g
  | ask f k, g => ask f fun m => (k m).bind g
  | br b x y, g => br b (x.bind g) (y.bind g)
  | fail, _ => fail
def run {α : Type} (φ : Sems) : Pr α → St → Log → Option (α × St × Log)
  | ret a, σ, L => some (a, σ, L)
  | rd r k, σ, L => (k (σ.get r)).run φ σ ((r, false) :: L)
  | wr r c k, σ, L => bif σ.has r then k.run φ (σ.set r c) ((r, true) :: L) else none
  | call f a k, σ, L => φ.run f a (Option (α × St × Log)) none fun rs outs => (k rs outs).run φ σ L
  | ask f k, σ, L => (k (φ.md f)).run φ σ L
  | br b x y, σ, L => bif b then x.run φ σ L else y.run φ σ L
  | fail, _, _ => none
def evalK {α R : Type} (φ : Sems) (z : R) : Pr α → St → Log → (α → St → Log → R) → R
  | ret a, σ, L, K => K a σ L
  | rd r k, σ, L, K => (k (σ.get r)).evalK φ z σ ((r, false) :: L) K
  | wr r c k, σ, L, K => bif σ.has r then k.evalK φ z (σ.set r c) ((r, true) :: L) K else z
  | call f a k, σ, L, K => φ.run f a R z fun rs outs => (k rs outs).evalK φ z σ L K
  | ask f k, σ, L, K => (k (φ.md f)).evalK φ z σ L K
  | br b x y, σ, L, K => bif b then x.evalK φ z σ L K else y.evalK φ z σ L K
  | fail, _, _, _ => z
end Pr
def guardP {α : Type} (b : Bool) (k : Pr α) : Pr α := .br b k .fail
def mapP {α β : Type} (g : α → Pr β) : List α → Pr (List β)
  | [] => .ret []
  | a :: l => (g a).bind fun b => (mapP g l).bind fun bs => .ret (b :: bs)
def mapI {α β : Type} (g : Nat → α → β) : Nat → List α → List β
  | _, [] => []
  | i, a :: l => g i a :: mapI g (i + 1) l
/-! ### trees -/
def T.at : T → Path → Option T
  | t, [] => some t
  | .arr m n f, j :: k :: q => bif Nat.blt j n && Nat.blt k m then (f j k).at q else none
  | _, _ => none
termination_by structural _ p => p
def T.put : T → Path → T → Option T
  | _, [], u => some u
  | .arr m n f, j :: k :: q, u => bif Nat.blt j n && Nat.blt k m then
      match (f j k).put q u with
      | some v => some (.arr m n fun j' k' => bif Nat.beq j' j && Nat.beq k' k then v else f j' k')
      | none => none
    else none
  | _, _, _ => none
termination_by structural _ p => p
def T.okAt : T → Path → Bool
  | _, [] => true
  | .arr m n f, j :: k :: q => (Nat.blt j n && Nat.blt k m) && (f j k).okAt q
  | _, _ => false
termination_by structural _ p => p
def T.get : T → Path → T
  | t, [] => t
  | .arr _ _ f, j :: k :: q => (f j k).get q
  | _, _ => .hole
termination_by structural _ p => p
def setF (j k : Nat) (v : T) (f : Nat → Nat → T) (j' k' : Nat) : T := bif Nat.beq j' j && Nat.beq k' k then v else f j' k'
def T.set : T → Path → T → T
  | _, [], u => u
  | .arr m n f, j :: k :: q, u => .arr m n (setF j k ((f j k).set q u) f)
  | t, _, _ => t
termination_by structural _ p => p
def T.wd : T → Nat
  | .arr m _ _ => m
  | _ => 0
def T.ln : T → Nat
  | .arr _ n _ => n
  | _ => 0
def T.fn : T → Nat → Nat → T
  | .arr _ _ f => f
  | _ => fun _ _ => .hole
def T.isArr : T → Bool
  | .arr .. => true
  | _ => false
def T.toI : T → Int
  | .int _ n => n
  | _ => 0
def T.toB : T → Bool
  | .bool b => b
  | _ => false
def T.toS : T → ByteArray
  | .str s => s
  | _ => ByteArray.empty
def T.isI (k : IntKind) : T → Bool
  | .int k' _ => decide (k' = k)
  | _ => false
def T.isB : T → Bool
  | .bool _ => true
  | _ => false
def T.isS : T → Bool
  | .str _ => true
  | _ => false
/-- A part of an array's rows. -/
def cutT (s n : Nat) (f : Nat → Nat → T) (j k : Nat) : T := bif Nat.blt j n then f (s + j) k else .hole
/-- What a cell of a type is like (z: the type's zero). -/
def okShape : C → T → Bool
  | .tr _ (.int k _), u => u.isI k
  | .tr _ (.bool _), u => u.isB
  | .tr _ (.str _), u => u.isS
  | .tr _ (.arr m _ _), u => u.isArr && Nat.beq u.wd m
  | _, _ => false
def shapeT : C → T → T
  | .tr _ (.int k _), u => .int k u.toI
  | .tr _ (.bool _), u => .bool u.toB
  | .tr _ (.str _), u => .str u.toS
  | .tr _ (.arr m _ _), u => .arr m u.ln u.fn
  | _, u => u
def okShapes (zs : List C) (g : Nat → T) : Nat → Bool
  | 0 => true
  | n + 1 => okShapes zs g n && match zs[n]? with
    | some z => okShape z (g n)
    | none => false
def shapeAt (zs : List C) (g : Nat → T) (i : Nat) : T := match zs[i]? with
  | some z => shapeT z (g i)
  | none => g i
def T.flat : T → Bool
  | .arr .. => false
  | _ => true
/-- A scalar as it is, nothing of an array. -/
def T.plain : T → T
  | .arr .. => .hole
  | .lent .. => .hole
  | t => t
def rowsAt (rows : List Row) : Path → Option T
  | i :: k :: q => match rows[i]? with
    | some (_, cs) => match cs[k]? with
      | some (.tr true t) => t.at q
      | _ => none
    | none => none
  | _ => none
def rowsPut (rows : List Row) (u : T) : Path → Option (List Row)
  | i :: k :: q => match rows[i]? with
    | some (g, cs) => match cs[k]? with
      | some (.tr true t) => match t.put q u with
        | some v => some (rows.set i (g, cs.set k (.tr true v)))
        | none => none
      | _ => none
    | none => none
  | _ => none
def rowsCell (rows : List Row) (i k : Nat) : T := match rows[i]? with
  | some (_, cs) => match cs[k]? with
    | some (.tr true t) => t
    | _ => .hole
  | none => .hole
def rowsOk (rows : List Row) : Path → Bool
  | i :: k :: q => match rows[i]? with
    | some (_, cs) => match cs[k]? with
      | some (.tr true t) => t.okAt q
      | _ => false
    | none => false
  | _ => false
def rowsGet (rows : List Row) : Path → T
  | i :: k :: q => (rowsCell rows i k).get q
  | _ => .hole
def rowsSet (rows : List Row) (u : T) : Path → List Row
  | i :: k :: q => match rows[i]? with
    | some (g, cs) => rows.set i (g, cs.set k (.tr true ((rowsCell rows i k).set q u)))
    | none => rows
  | _ => rows
def arrAt {α : Type} (rows : List Row) (p : Path) (k : Nat → Nat → (Nat → Nat → T) → Pr α) : Pr α :=
  guardP (rowsOk rows p && (rowsGet rows p).isArr) (k (rowsGet rows p).wd (rowsGet rows p).ln (rowsGet rows p).fn)
def viewC (r : Nat) (ver : Ver) (p : Path) : C → C
  | .tr true (.arr m n _) => .ref r (ver p) p m 0 n
  | .tr true (.lent ..) => .dead
  | c => c
def viewRows (r : Nat) (ver : Ver) (rows : List Row) : List Row :=
  mapI (fun i (row : Row) => (row.1, mapI (fun k c => viewC r ver [i, k] c) 0 row.2)) 0 rows
/-! ### values of the text -/
def ofCell : Value → C
  | .int k n => .tr true (.int k n)
  | .bool b => .tr true (.bool b)
  | .string s => .tr true (.str s)
  | .slice none 0 0 => .tr true (.arr 0 0 fun _ _ => .hole)
  | _ => .dead
def ofValue : Value → Option Row
  | .agg cs => bif cs.toList.all (·.oneCell') then some (true, cs.toList.map ofCell) else none
  | v => bif v.oneCell' then some (false, [ofCell v]) else none
/-! ### operands -/
def peek (x : Operand) : Pr (List Row) :=
  match x with
  | .tmp t => .rd (slot t) fun ct => .ret (viewRows (slot t) ct.ver ct.rows)
  | .const v => match ofValue v with
    | some r => .ret [r]
    | none => .fail
  | .func f => .ret [(false, [.fn f []])]
  | .global _ => .fail
def peekRow (x : Operand) : Pr Row := (peek x).bind fun rows => match rows with
  | [r] => .ret r
  | _ => .fail
def peek1 (x : Operand) : Pr C := (peekRow x).bind fun row => match row with
  | (false, [c]) => .ret c
  | _ => .fail
def put (dst : Option Tmp) (rows : List Row) : Pr Unit :=
  match dst with
  | some d => .rd (slot d) fun ct => .wr (slot d) ⟨bump [] ct.ver, rows⟩ (.ret ())
  | none => .ret ()
def put1 (dst : Option Tmp) (c : C) : Pr Unit := put dst [(false, [c])]
def putT (dst : Option Tmp) (t : T) : Pr Unit := put1 dst (.tr true t)
/-- Take the content of a cell away from where it lies. -/
def takeC : C → Pr C
  | .ref r ver p m s n => bif Nat.beq (r % 4) 2 then .ret (.ref r ver p m s n) else .rd r fun ct => arrAt ct.rows p fun m' n' f => guardP (Nat.beq (ct.ver p) ver && (Nat.beq s 0 && (Nat.ble n n' && Nat.beq m m'))) (.wr r ⟨bump p ct.ver, rowsSet ct.rows .hole p⟩ (.ret (.tr true (.arr m n f))))
  | c => .ret c
def takeRowC (row : Row) : Pr Row := (mapP takeC row.2).bind fun cs => .ret (row.1, cs)
def takeRow (x : Operand) : Pr Row := (peekRow x).bind takeRowC
/-- What a cell may bring into an array that a root owns. -/
def ownT : C → Option T
  | .tr true t => some t
  | .tr false (.arr ..) => none
  | .tr false (.lent ..) => none
  | .tr false t => some t
  | _ => none
def ownTs : List C → Option (List T)
  | [] => some []
  | c :: cs => match ownT c, ownTs cs with
    | some t, some ts => some (t :: ts)
    | _, _ => none
/-- A cell of a box, as memory that nobody writes. -/
def imT : C → T
  | .tr _ t => t
  | _ => .hole
def pimF (ts : List T) (i : Nat) : T := ts.getD i .hole
theorem pimF_at {cs : List C} {k i : Nat} : pimF ((cs.drop k).map imT) i = match cs[k + i]? with | some c => imT c | none => .hole := by
  unfold pimF
  rw [List.getD_eq_getElem?_getD, List.getElem?_map, List.getElem?_drop]
  cases cs[k + i]? <;> rfl
def resPt : Pt → Pr Pt
  | .ptr r ver p m j k => .rd r fun ct => guardP (Nat.beq (ct.ver p) ver) (match p with
    | [] => match ct.rows[j]? with
      | some (_, cs) => guardP (Nat.beq m cs.length) (.ret (.pim (m - k) (pimF ((cs.drop k).map imT))))
      | none => .fail
    | p => arrAt ct.rows p fun m' n' f => guardP (Nat.beq m m' && Nat.blt j n') (.ret (.pim (m - k) fun i => f j (k + i))))
  | .pim m g => .ret (.pim m g)
/-- The content of a cell, as memory that nobody writes: for a call. -/
def resC : C → Pr C
  | .tr _ t => .ret (.tr false t)
  | .ref r ver p m s n => .rd r fun ct => arrAt ct.rows p fun m' n' f => guardP (Nat.beq (ct.ver p) ver && (Nat.beq m m' && Nat.ble (s + n) n')) (.ret (.tr false (.arr m n (cutT s n f))))
  | .pt x => (resPt x).bind fun x => .ret (.pt x)
  | .fn f caps => (mapP resPt caps).bind fun caps => .ret (.fn f caps)
  | .dead => .fail
def resRow (row : Row) : Pr Row := (mapP resC row.2).bind fun cs => .ret (row.1, cs)
/-! ### types -/
section
variable (P : Program)
def szOf (t : TypeId) : Nat := match P.info? t with | some i => i.size | none => 0
def bytesOf (t : TypeId) : Nat := match P.info? t with | some i => i.bytes | none => 0
def isAg (t : TypeId) : Bool := match P.underlying t with | some (.struct _) => true | some (.array ..) => true | _ => false
/-- How many cells a variable's load hands over. -/
def szA (t : TypeId) : Nat := bif isAg P t then szOf P t else 1
/-- The types of a type's cells. -/
def cellTys : Nat → TypeId → List TypeId
  | 0, t => [t]
  | d + 1, t => match P.underlying t with
    | some (.struct fs) => fs.toList.flatMap fun f => cellTys d f.type
    | _ => [t]
def typC (t : TypeId) : C → C
  | .tr true (.arr m n f) => bif Nat.beq m 0 then match P.underlying t with
      | some (.slice e) => .tr true (.arr (szOf P e) 0 fun _ _ => .hole)
      | _ => .tr true (.arr m n f)
    else .tr true (.arr m n f)
  | c => c
def typCs : List TypeId → List C → List C
  | t :: ts, c :: cs => typC P t c :: typCs ts cs
  | _, cs => cs
def zeroRow (t : TypeId) : Row := match P.info? t with
  | some i => match i.zero with
    | some v => match ofValue v with
      | some r => (r.1, typCs P (cellTys P 20 t) r.2)
      | none => (false, [])
    | none => (false, [])
  | none => (false, [])
def okTy (t : TypeId) : Bool := (P.underlying t).isSome
def fieldOf (t : TypeId) (k : Nat) : Option (Nat × TypeId) := match P.underlying t with
  | some (.struct fs) => match fs[k]? with
    | some f => some (f.offset, f.type)
    | none => none
  | _ => none
def elemTy (t : TypeId) : Option TypeId := match P.underlying t with
  | some (.slice e) => some e
  | _ => none
/-- A row's size, of a type that has cells. -/
def isSz (m : Nat) (e : TypeId) : Bool := Nat.beq m (szOf P e) && !Nat.beq m 0
/-! ### memory -/
def loadP (t : TypeId) : Pt → Pr Row
  | .pim m g => guardP ((okTy P t && Nat.ble (szA P t) m) && okShapes (zeroRow P t).2 g (szA P t)) (.ret (isAg P t, (List.range (szA P t)).map fun i => .tr false (shapeAt (zeroRow P t).2 g i)))
  | .ptr r ver p m j k => .rd r fun ct => guardP (Nat.beq (ct.ver p) ver) (match p with
    | [] => match ct.rows[j]? with
      | some (_, cs) => guardP (okTy P t && Nat.ble (k + szA P t) cs.length) (.ret (isAg P t, mapI (fun i c => viewC r ct.ver [j, k + i] c) 0 ((cs.drop k).take (szA P t))))
      | none => .fail
    | p => arrAt ct.rows p fun m' n' f => guardP ((okTy P t && (Nat.beq m m' && (Nat.blt j n' && Nat.ble (k + szA P t) m))) && okShapes (zeroRow P t).2 (fun i => f j (k + i)) (szA P t))
      (.ret (isAg P t, (List.range (szA P t)).map fun i => viewC r ct.ver (p ++ [j, k + i]) (.tr true (shapeAt (zeroRow P t).2 (fun i => f j (k + i)) i)))))
/-- One cell is written. -/
def putCell (p : Path) (j k : Nat) (c : C) (rows : List Row) : Option (List Row) := match p with
  | [] => match rows[j]? with
    | some (g, old) => bif Nat.blt k old.length then some (rows.set j (g, old.set k c)) else none
    | none => none
  | p => match ownT c with
    | some t => rowsPut rows t (p ++ [j, k])
    | none => none
def plainC : C → Bool
  | .tr _ (.arr ..) => false
  | .tr _ _ => true
  | _ => false
def mOk (p : Path) (m : Nat) (rows : List Row) : Bool := match p with
  | [] => true
  | p => rowsOk rows p && ((rowsGet rows p).isArr && Nat.beq m (rowsGet rows p).wd)
def putB (p : Path) (j k : Nat) (c : C) (rows : List Row) : Bool := match p with
  | [] => match rows[j]? with
    | some (_, old) => Nat.blt k old.length
    | none => false
  | p => match ownT c with
    | some _ => rowsOk rows (p ++ [j, k])
    | none => false
def putV (p : Path) (j k : Nat) (c : C) (rows : List Row) : List Row := match p with
  | [] => match rows[j]? with
    | some (g, old) => rows.set j (g, old.set k c)
    | none => rows
  | p => match ownT c with
    | some t => rowsSet rows t (p ++ [j, k])
    | none => rows
def storeCs (r : Nat) (p : Path) (m j : Nat) : Nat → Nat → List C → Pr Unit
  | _, _, [] => .ret ()
  | ver, k, c :: cs => .rd r fun ct => guardP ((Nat.beq (ct.ver p) ver && (Nat.blt k m && mOk p m ct.rows)) && putB p j k c ct.rows) (.wr r ⟨bump (p ++ [j, k]) ct.ver, putV p j k c ct.rows⟩ (storeCs r p m j ver (k + 1) cs))
def storeP (x : Pt) (cs : List C) : Pr Unit :=
  match x with
  | .ptr r ver p m j k => storeCs r p m j ver k cs
  | _ => .fail
/-! ### arithmetic -/
def intBin (op : BinOp) (k : IntKind) (a b : Int) : Option T :=
  match op with
  | .add => some (.int k (k.wrap (a + b)))
  | .sub => some (.int k (k.wrap (a - b)))
  | .mul => some (.int k (k.wrap (a * b)))
  | .and => some (.int k (k.wrap (BitVec.ofInt k.bits a &&& BitVec.ofInt k.bits b).toNat))
  | .or => some (.int k (k.wrap (BitVec.ofInt k.bits a ||| BitVec.ofInt k.bits b).toNat))
  | .lss => some (.bool (decide (a < b)))
  | .leq => some (.bool (decide (a ≤ b)))
  | .gtr => some (.bool (decide (b < a)))
  | .geq => some (.bool (decide (b ≤ a)))
  | .eql => some (.bool (a == b))
  | .neq => some (.bool (a != b))
  | _ => none
def strBin (op : BinOp) (a b : ByteArray) : Option T :=
  match op with
  | .eql => some (.bool (a.toList == b.toList))
  | .neq => some (.bool !(a.toList == b.toList))
  | _ => none
/-- Equality by a type of numbers, bools and structs of these: the cells from 'off' on. -/
def eqAt : Nat → TypeId → List C → List C → Nat → Option Bool
  | 0, _, _, _, _ => none
  | d + 1, t, cs, ds, off => match P.underlying t with
    | some (.int _) => match cs[off]?, ds[off]? with
      | some (.tr _ (.int k a)), some (.tr _ (.int k' b)) => bif decide (k = k') then some (a == b) else none
      | _, _ => none
    | some .bool => match cs[off]?, ds[off]? with
      | some (.tr _ (.bool a)), some (.tr _ (.bool b)) => some (a == b)
      | _, _ => none
    | some (.struct fs) => bif P.stoodInHeld t then none else
      fs.toList.foldr (fun f r => bif f.name != "_" && (okTy P f.type && Nat.ble (f.offset + szA P f.type) (szOf P t)) then match eqAt d f.type cs ds (off + f.offset), r with
        | some x, some y => some (bif x then y else false)
        | _, _ => none
        else none) (some true)
    | _ => none
def eqP (t : TypeId) (x y : Row) : Option Bool :=
  match x, y with
  | (true, cs), (true, ds) => bif P.eqGuardType P.depth t then none else match P.underlying t with
    | some (.struct _) => bif Nat.beq cs.length (szOf P t) && Nat.beq ds.length (szOf P t) then eqAt P 20 t cs ds 0 else none
    | _ => none
  | (false, [.tr _ (.bool a)]), (false, [.tr _ (.bool b)]) => match P.underlying t with
    | some .bool => some (a == b)
    | _ => none
  | _, _ => none
def binP (op : BinOp) (t : TypeId) (x y : Row) : Pr T :=
  match x, y with
  | (false, [.tr _ (.int k a)]), (false, [.tr _ (.int k' b)]) => bif decide (k = k') then
      match op with
      | .quo => guardP (!(b == 0)) (.ret (.int k (k.wrap (a.tdiv b))))
      | .rem => guardP (!(b == 0)) (.ret (.int k (a.tmod b)))
      | op => match intBin op k a b with
        | some t => .ret t
        | none => .fail
    else .fail
  | (false, [.tr _ (.str a)]), (false, [.tr _ (.str b)]) => match strBin op a b with
    | some t => .ret t
    | none => .fail
  | x, y => match op, eqP P t x y with
    | .eql, some b => .ret (.bool b)
    | .neq, some b => .ret (.bool !b)
    | _, _ => .fail
/-! ### the operations -/
def lenC (d : Option TypeDesc) (c : C) : Option Nat := match d, c with
  | some (.slice _), .tr _ (.arr _ n _) => some n
  | some .string, .tr _ (.str s) => some s.size
  | some (.slice _), .ref _ _ _ _ _ n => some n
  | _, _ => none
def fieldPt (off : Nat) : Pt → Pt
  | .ptr r ver p m j k => .ptr r ver p m j (k + off)
  | .pim m g => .pim (m - off) fun i => g (off + i)
/-- How many bytes a slice may take. -/
def lim : Nat := 70368744177664
/-- A scalar cell's part of an appended row. -/
def appF (n : Nat) (f f' : Nat → Nat → T) (j k : Nat) : T := bif Nat.blt j n then f j k else f' (j - n) k
def appT (m n : Nat) (f : Nat → Nat → T) (n' : Nat) (f' : Nat → Nat → T) : T := .arr m (n + n') (appF n f f')
def plainF (f : Nat → Nat → T) (j k : Nat) : T := (f j k).plain
def intC : C → Option Int
  | .tr _ (.int .i64 i) => some i
  | _ => none
def setCells : Nat → List C → List C → List C
  | _, [], cs => cs
  | off, c :: l, cs => setCells (off + 1) l (cs.set off c)
def buildRow (t : TypeId) : List (Nat × Row) → List C → Option (List C)
  | [], cs => some cs
  | (i, r) :: l, cs => match fieldOf P t i with
    | some (off, ft) => bif !Nat.beq (szOf P ft) 0 && (Nat.beq r.2.length (szOf P ft) && Nat.ble (off + szOf P ft) cs.length) then buildRow t l (setCells off r.2 cs) else none
    | none => none
def takeParts : List (Nat × Operand) → Pr (List (Nat × Row))
  | [] => .ret []
  | (i, x) :: l => (takeRow x).bind fun r => (takeParts l).bind fun rs => .ret ((i, r) :: rs)
/-- the rows of a slice's literal: parts in ascending order, all of them -/
def litRows (m : Nat) : Nat → List (Nat × Row) → Option (List (List T))
  | _, [] => some []
  | i, (j, r) :: l => bif Nat.beq i j && Nat.beq r.2.length m then match ownTs r.2, litRows m (i + 1) l with
    | some ts, some rs => some (ts :: rs)
    | _, _ => none
    else none
def rowsT (rs : List (List T)) (j k : Nat) : T := (rs.getD j []).getD k .hole
def zeroT (e : TypeId) (_j k : Nat) : T := match (zeroRow P e).2[k]? with
  | some (.tr true t) => t
  | _ => .hole
def zeroOk (e : TypeId) : Bool := Nat.beq (zeroRow P e).2.length (szOf P e) && !Nat.beq (szOf P e) 0 && (zeroRow P e).2.all fun c => match c with | .tr true _ => true | _ => false
def flatTy (e : TypeId) : Bool := (zeroRow P e).2.all plainC
def ptsOf : List C → Option (List Pt)
  | [] => some []
  | .pt x :: l => match ptsOf l with
    | some ps => some (x :: ps)
    | none => none
  | _ => none
def finC (c : C) : Pr C := match ownT c with
  | some t => .ret (.tr true t)
  | none => .fail
def finRow (row : Row) : Pr Row := (mapP finC row.2).bind fun cs => .ret (row.1, cs)
/-- A cell's content is lent: the place keeps the header. -/
def lendC : C → Pr C
  | .ref r ver p m s n => .rd r fun ct => arrAt ct.rows p fun m' n' f => guardP (Nat.beq (ct.ver p) ver && (Nat.beq s 0 && (Nat.beq n n' && Nat.beq m m'))) (.wr r ⟨bumpD p ct.ver, rowsSet ct.rows (.lent m n) p⟩ (.ret (.tr true (.arr m n f))))
  | c => finC c
def giveC (home out : C) : Pr Unit := match home, out with
  | .ref r _ p m _ n, .tr true (.arr m' n' f) => .rd r fun ct => guardP (Nat.beq m m' && (Nat.beq n n' && rowsOk ct.rows p)) (.wr r ⟨bumpD p ct.ver, rowsSet ct.rows (.arr m' n' f) p⟩ (.ret ()))
  | .tr .., _ => .ret ()
  | _, _ => .fail
def giveCs : List C → List C → Pr Unit
  | [], [] => .ret ()
  | c :: cs, d :: ds => (giveC c d).bind fun _ => giveCs cs ds
  | _, _ => .fail
/-- A variable's content is lent. -/
def lendB : C → Pr Row
  | .pt (.ptr r ver [] m 0 0) => .rd r fun ct => match ct.rows with
    | [row] => guardP (Nat.beq (ct.ver []) ver && Nat.beq m row.2.length) ((finRow row).bind fun row => .wr r ⟨bumpD [] ct.ver, []⟩ (.ret row))
    | _ => .fail
  | _ => .fail
def giveB (home : C) (out : Row) : Pr Unit := match home with
  | .pt (.ptr r _ [] m 0 0) => .rd r fun ct => guardP (Nat.beq m out.2.length) (.wr r ⟨bumpD [] ct.ver, [out]⟩ (.ret ()))
  | _ => .fail
def takesP : List Nat → List Operand → Pr (List Row)
  | _, [] => .ret []
  | md, x :: xs => (bif Nat.beq (md.headD 0) 3 then (peekRow x).bind fun row => (takeRowC row).bind finRow else .ret (false, [])).bind fun r => (takesP md.tail xs).bind fun rs => .ret (r :: rs)
/-- The arguments that are lent. -/
def lentAt : Nat → List Nat → List Operand → List (Nat × Nat × Operand)
  | _, _, [] => []
  | i, md, x :: xs => bif Nat.beq (md.headD 0) 1 || Nat.beq (md.headD 0) 2 then (i, md.headD 0, x) :: lentAt (i + 1) md.tail xs else lentAt (i + 1) md.tail xs
def locOf : C → List (Nat × Path)
  | .ref r _ p _ _ _ => [(r, p)]
  | _ => []
def okPair (x y : Nat × Path) : Bool := !Nat.beq x.1 y.1 || (lenLe x.2 y.2 && lenLe y.2 x.2)
def pairsOk : List (Nat × Path) → Bool
  | [] => true
  | x :: l => l.all (okPair x) && pairsOk l
/-- A row or a variable is lent: where it lies, and its content. -/
def lendP (t : Nat) (x : Operand) : Pr (Row × Row) :=
  bif Nat.beq t 1 then (peekRow x).bind fun row => guardP (!row.2.isEmpty && pairsOk (row.2.flatMap locOf)) ((mapP lendC row.2).bind fun cs => .ret (row, (row.1, cs)))
  else (peek1 x).bind fun c => (lendB c).bind fun row => .ret ((false, [c]), row)
def giveP (t : Nat) (home out : Row) : Pr Unit :=
  bif Nat.beq t 1 then guardP (home.1 == out.1) (giveCs home.2 out.2) else match home with
    | (false, [c]) => giveB c out
    | _ => .fail
def restP : List Nat → List Operand → List Row → Row → Pr (List Arg)
  | md, x :: xs, tr :: ts, lr => (bif Nat.beq (md.headD 0) 3 then .ret (3, tr) else bif Nat.beq (md.headD 0) 1 || Nat.beq (md.headD 0) 2 then .ret (md.headD 0, lr) else (peekRow x).bind fun row => (resRow row).bind fun row => .ret (0, row)).bind fun r =>
    (restP md.tail xs ts lr).bind fun rs => .ret (r :: rs)
  | _, _, _, _ => .ret []
def goP (dst : Option Tmp) (f : FuncId) (caps : List Pt) (md : List Nat) (xs : List Operand) (ts : List Row) (lr : Row) (k : List Row → Pr Unit) : Pr Unit :=
  (restP md xs ts lr).bind fun args => (mapP resPt caps).bind fun caps => .call f (args ++ caps.map fun c => (0, (false, [.pt c]))) fun rows outs => (k outs).bind fun _ => put dst rows
def callP (dst : Option Tmp) (f : C) (xs : List Operand) : Pr Unit := match f with
  | .fn f caps => .ask f fun md => (takesP md xs).bind fun ts => match lentAt 0 md xs with
    | [] => goP dst f caps md xs ts (false, []) fun _ => .ret ()
    | [(i, t, x)] => (lendP t x).bind fun hl => goP dst f caps md xs ts hl.2 fun outs => giveP t hl.1 (outs.getD i (false, []))
    | _ => .fail
  | _ => .fail
def lenP (t : TypeId) (dst : Option Tmp) (c : C) : Pr Unit := match lenC (P.underlying t) c with
  | some n => putT dst (.int .i64 n)
  | none => .fail
def appendFlat (e : TypeId) (dst : Option Tmp) (m n : Nat) (f : Nat → Nat → T) (m' n' : Nat) (f' : Nat → Nat → T) : Pr Unit :=
  guardP ((Nat.beq m (szOf P e) || Nat.beq m 0) && ((Nat.beq m' (szOf P e) || Nat.beq n' 0) && (zeroOk P e && (Nat.ble ((n + n') * bytesOf P e) lim && Nat.ble (n + n') lim))))
    (putT dst (appT (szOf P e) n f n' (plainF f')))
def appendOwn (e : TypeId) (dst : Option Tmp) (m n : Nat) (f : Nat → Nat → T) (m' n' : Nat) (f' : Nat → Nat → T) : Pr Unit :=
  guardP ((Nat.beq m (szOf P e) || Nat.beq m 0) && ((Nat.beq m' (szOf P e) || Nat.beq n' 0) && (zeroOk P e && (Nat.ble ((n + n') * bytesOf P e) lim && Nat.ble (n + n') lim))))
    (putT dst (appT (szOf P e) n f n' f'))
def appendP (e : TypeId) (dst : Option Tmp) (x y : Operand) : Pr Unit := (takeRow x).bind fun xr => match xr with
  | (false, [.tr true (.arr m n f)]) => (peek1 y).bind fun yc => match yc with
    | .tr _ (.arr m' n' f') => appendFlat P e dst m n f m' n' f'
    | .ref r ver p m' s n' => bif flatTy P e then (resC (.ref r ver p m' s n')).bind fun c => match c with
        | .tr _ (.arr m' n' f') => appendFlat P e dst m n f m' n' f'
        | _ => .fail
      else (takeC (.ref r ver p m' s n')).bind fun c => match c with
        | .tr true (.arr m' n' f') => appendOwn P e dst m n f m' n' f'
        | _ => .fail
    | _ => .fail
  | _ => .fail
def sliceC (d : Option TypeDesc) (lo hi : Option Int) (c : C) : Option (Bool × C) := match d, c with
  | some (.slice e), .tr false (.arr m n f) =>
    some (isSz P m e && (decide (0 ≤ lo.getD 0) && (decide (lo.getD 0 ≤ hi.getD n) && decide (hi.getD n ≤ n))), .tr false (.arr m ((hi.getD n).toNat - (lo.getD 0).toNat) (cutT (lo.getD 0).toNat ((hi.getD n).toNat - (lo.getD 0).toNat) f)))
  | some (.slice e), .ref r ver p m s n =>
    some (isSz P m e && (decide (0 ≤ lo.getD 0) && (decide (lo.getD 0 ≤ hi.getD n) && decide (hi.getD n ≤ n))), .ref r ver p m (s + (lo.getD 0).toNat) ((hi.getD n).toNat - (lo.getD 0).toNat))
  | some .string, .tr _ (.str s) =>
    some (decide (0 ≤ lo.getD 0) && (decide (lo.getD 0 ≤ hi.getD s.size) && decide (hi.getD s.size ≤ s.size)), .tr true (.str (s.extract (lo.getD 0).toNat (hi.getD s.size).toNat)))
  | _, _ => none
def optInt : Option Operand → Pr (Option Int)
  | none => .ret none
  | some x => (peek1 x).bind fun c => match intC c with
    | some i => .ret (some i)
    | none => .fail
def isU8 (e : TypeId) : Bool := match P.underlying e with | some (.int .u8) => true | _ => false
def allU8 (n : Nat) (f : Nat → Nat → T) : Bool := (List.range n).all fun j => (f j 0).isI .u8
def numsOf (n : Nat) (f : Nat → Nat → T) : List Int := (List.range n).map fun j => (f j 0).toI
def opP (o : Oper) : Pr Unit :=
  match o.op with
  | .move x => (peek x).bind (put o.dst)
  | .assign x => (takeRow x).bind fun row => put o.dst [(row.1, typCs P [o.type] row.2)]
  | .pick c a b => (peek1 c).bind fun c => match c with
    | .tr _ (.bool p) => .br p ((peek a).bind (put o.dst)) ((peek b).bind (put o.dst))
    | _ => .fail
  | .alloc e => match o.dst with
    | some d => guardP (Nat.beq (zeroRow P e).2.length (szOf P e) && !Nat.beq (szOf P e) 0) (.rd (box d) fun ct => .wr (box d) ⟨bump [] ct.ver, [zeroRow P e]⟩ (put1 o.dst (.pt (.ptr (box d) (ct.ver [] + 1) [] (szOf P e) 0 0))))
    | none => .fail
  | .box e x => match o.dst with
    | some d => (takeRow x).bind fun row => guardP (Nat.beq row.2.length (szOf P e) && !Nat.beq (szOf P e) 0) (.rd (box d) fun ct => .wr (box d) ⟨bump [] ct.ver, [row]⟩ (put1 o.dst (.pt (.ptr (box d) (ct.ver [] + 1) [] (szOf P e) 0 0))))
    | none => .fail
  | .load t a => (peek1 a).bind fun a => match a with
    | .pt a => (loadP P t a).bind fun row => put o.dst [row]
    | _ => .fail
  | .store t a x => (peek1 a).bind fun a => match a with
    | .pt a => (takeRow x).bind fun row => guardP (Nat.beq row.2.length (szOf P t) && !Nat.beq (szOf P t) 0) ((storeP a row.2).bind fun _ => put o.dst [(false, [])])
    | _ => .fail
  | .nilCheck x => (peek1 x).bind fun c => match c with
    | .pt a => put1 o.dst (.pt a)
    | .fn f caps => put1 o.dst (.fn f caps)
    | _ => .fail
  | .fieldAddr t x k => (peek1 x).bind fun a => match fieldOf P t k, a with
    | some (off, ft), .pt a => bif Nat.beq (szOf P ft) 0 then .fail else put1 o.dst (.pt (fieldPt off a))
    | _, _ => .fail
  | .field t x k => (peekRow x).bind fun row => match fieldOf P t k, row with
    | some (off, ft), (true, cs) => guardP (okTy P ft && Nat.ble (off + szA P ft) cs.length) (put o.dst [(isAg P ft, (cs.drop off).take (szA P ft))])
    | _, _ => .fail
  | .indexAddr t x i => (peek1 x).bind fun a => (peek1 i).bind fun i => match intC i, elemTy P t with
    | some i, some e => match a with
      | .tr false (.arr m n f) => guardP (decide (0 ≤ i) && (Nat.blt i.toNat n && isSz P m e)) (put1 o.dst (.pt (.pim m (f i.toNat))))
      | .ref r ver p m s n => .rd r fun ct => guardP (Nat.beq (ct.ver p) ver && (decide (0 ≤ i) && (Nat.blt i.toNat n && isSz P m e))) (put1 o.dst (.pt (.ptr r ver p m (s + i.toNat) 0)))
      | _ => .fail
    | _, _ => .fail
  | .index t x i => (peek1 x).bind fun a => (peek1 i).bind fun i => match intC i, P.underlying t, a with
    | some i, some .string, .tr _ (.str s) => guardP (decide (0 ≤ i) && Nat.blt i.toNat s.size) (putT o.dst (.int .u8 (s.data.getD i.toNat 0).toNat))
    | _, _, _ => .fail
  | .binOp op t x y _ => (peekRow x).bind fun x => (peekRow y).bind fun y => (binP P op t x y).bind (putT o.dst)
  | .unOp .not _ x => (peek1 x).bind fun x => match x with
    | .tr _ (.bool b) => putT o.dst (.bool !b)
    | _ => .fail
  | .convert s d x => (peek1 x).bind fun x => match P.underlying s, P.underlying d, x with
    | some (.int _), some (.int k), .tr _ (.int _ n) => putT o.dst (.int k (k.wrap n))
    | some (.slice e), some .string, .tr _ (.arr m n f) => guardP (isU8 P e && (Nat.beq m 1 && allU8 n f)) (putT o.dst (.str (strOfNums (numsOf n f))))
    | some (.slice e), some .string, .ref r ver p m s n => .rd r fun ct => arrAt ct.rows p fun m' n' f => guardP (Nat.beq (ct.ver p) ver && (Nat.beq m m' && (Nat.ble (s + n) n' && (isU8 P e && (Nat.beq m 1 && allU8 n (cutT s n f)))))) (putT o.dst (.str (strOfNums (numsOf n (cutT s n f)))))
    | _, _, _ => .fail
  | .extract x i => (peek x).bind fun rows => match rows with
    | r :: r' :: rs => match (r :: r' :: rs)[i]? with
      | some r => put o.dst [r]
      | none => .fail
    | _ => .fail
  | .makeFunc (.func f) first caps => bif Nat.beq first.size 0 then (mapP peek1 caps.toList).bind fun cs => match ptsOf cs with
      | some caps => put1 o.dst (.fn f caps)
      | none => .fail
    else .fail
  | .makeSlice t l c => (peek1 l).bind fun l => (peek1 c).bind fun c => match intC l, intC c, elemTy P t with
    | some l, some c, some e => guardP (decide (0 ≤ l) && (decide (l ≤ c) && (Nat.ble (c.toNat * bytesOf P e) lim && Nat.ble c.toNat lim))) (bif zeroOk P e then putT o.dst (.arr (szOf P e) l.toNat (cutT 0 l.toNat (zeroT P e))) else .fail)
    | _, _, _ => .fail
  | .slice t x lo hi none => (peek1 x).bind fun x => (optInt lo).bind fun lo => (optInt hi).bind fun hi => match sliceC P (P.underlying t) lo hi x with
    | some (g, c) => guardP g (put1 o.dst c)
    | none => .fail
  | .build t ps => match P.underlying t with
    | some (.struct fs) => bif fs.toList.all (fun f => okTy P f.type) && ((zeroRow P t).1 && !Nat.beq (zeroRow P t).2.length 0) then (takeParts ps.toList).bind fun ps => match buildRow P t ps (zeroRow P t).2 with
        | some cs => put o.dst [(true, cs)]
        | none => .fail
      else .fail
    | _ => .fail
  | .buildSlice t len ps => match elemTy P t with
    | some e => bif Nat.ble (len * szOf P e) 16777216 && (Nat.beq ps.size len && zeroOk P e) then (takeParts ps.toList).bind fun ps => match litRows (szOf P e) 0 ps with
        | some rs => putT o.dst (.arr (szOf P e) len (rowsT rs))
        | none => .fail
      else .fail
    | none => .fail
  | .call c => match c.callee with
    | .builtin .len => match c.args.toList, c.argTypes.toList with
      | [x], [t] => (peek1 x).bind (lenP P t o.dst)
      | _, _ => .fail
    | .builtin .min => match c.args.toList with
      | [x, y] => (peek1 x).bind fun x => (peek1 y).bind fun y => match x, y with
        | .tr _ (.int k a), .tr _ (.int k' b) => guardP (decide (k = k')) (putT o.dst (.int k (if b < a then b else a)))
        | _, _ => .fail
      | _ => .fail
    | .builtin .append => match c.args.toList, c.argTypes.toList with
      | [x, y], [t, t'] => bif Nat.beq t t' then match elemTy P t with
          | some e => appendP P e o.dst x y
          | none => .fail
        else .fail
      | _, _ => .fail
    | .value f => (peek1 f).bind fun f => callP o.dst f c.args.toList
    | _ => .fail
  | _ => .fail
end
/-! ### regions -/
def undefRows : List Row := [(false, [])]
def operP (P : Program) (ops : Array Oper) (o : Oper) : Pr Unit := match o.guard with
  | none => opP P o
  | some (g, want) => match (ops[g]?).bind (·.dst) with
    | some t => .rd (slot t) fun ct => match ct.rows with
      | [(false, [.tr _ (.bool b)])] => .br (bif want then b else !b) (opP P o) (put o.dst undefRows)
      | [(false, [])] => put o.dst undefRows
      | _ => .fail
    | none => .fail
def disjL (L L' : Log) : Bool := L.all fun x => L'.all fun y => !Nat.beq x.1 y.1 || (!x.2 && !y.2)
/-- Bit j of number i: operation j comes before operation i, whatever order is drawn. -/
def edgeBits (acc : List Nat) (es : List Edge) : Nat := es.foldr (fun e s => bif Region.binds .any e then (s ||| 2 ^ e.on) ||| acc.getD e.on 0 else s) 0
def befL : List Oper → List Nat → List Nat
  | [], acc => acc
  | o :: l, acc => befL l (acc ++ [edgeBits acc o.after.toList])
def okLogs (bef : List Nat) : List (Nat × Log) → Bool
  | [] => true
  | (j, L) :: rest => (rest.all fun x => Nat.testBit (bef.getD j 0) x.1 || disjL x.2 L) && okLogs bef rest
def okEdges : List Oper → Nat → Bool
  | [], _ => true
  | o :: l, i => (o.after.toList.all fun e => !Region.binds .any e || Nat.blt e.on i) && okEdges l (i + 1)
def prepOne (nt : Nat) (σ : St) (o : Oper) : St := match o.dst with
  | some d => bif Nat.blt d nt then match o.op with
      | .alloc _ => (σ.add (slot d)).add (box d)
      | .box .. => (σ.add (slot d)).add (box d)
      | _ => σ.add (slot d)
    else σ
  | none => σ
def prep (nt : Nat) : List Oper → St → St
  | [], σ => σ
  | o :: l, σ => prep nt l (prepOne nt σ o)
def fixPt (σ : St) : Pt → C
  | .ptr r ver p m j k => bif Nat.beq ((σ.get r).ver p) ver then .pt (.ptr r 0 p m j k) else .dead
  | .pim m g => .pt (.pim m g)
def fixPts (σ : St) : List Pt → Option (List Pt)
  | [] => some []
  | x :: l => match fixPt σ x, fixPts σ l with
    | .pt y, some l => some (y :: l)
    | _, _ => none
def fixC (σ : St) : C → C
  | .tr false (.int k n) => .tr true (.int k n)
  | .tr false (.bool b) => .tr true (.bool b)
  | .tr false (.str s) => .tr true (.str s)
  | .ref r ver p m s n => bif Nat.beq ((σ.get r).ver p) ver then .ref r 0 p m s n else .dead
  | .pt x => fixPt σ x
  | .fn f caps => match fixPts σ caps with
    | some caps => .fn f caps
    | none => .dead
  | c => c
def fixRows (σ : St) (rows : List Row) : List Row := rows.map fun row => (row.1, row.2.map (fixC σ))
def memR (r : Nat) : List Nat → Bool
  | [] => false
  | x :: l => bif Nat.beq x r then true else memR r l
def St.del (σ : St) (r : Nat) : St := σ.filter fun x => !Nat.beq x.1 r
def normL (σ : St) : List Nat → St → St
  | [], _ => []
  | r :: keep, τ => bif τ.has r then (r, ⟨z0, fixRows σ (τ.get r).rows⟩) :: normL σ keep (τ.del r) else normL σ keep τ
def norm (keep : List Nat) (σ : St) : St := normL σ keep σ
inductive Ex where
  | normal | exit (id : Nat) | ret
section
variable {R : Type} (P : Program) (φ : Sems) (keep : List Nat) (nt : Nat) (z : R)
/-- A guard is decided once. -/
def splitK (t : Tmp) (σ : St) (K : St → R) : R := match σ.get (slot t) with
  | ⟨ver, [(false, [.tr o (.bool b)])]⟩ => bif b then K (σ.set (slot t) ⟨ver, [(false, [.tr o (.bool true)])]⟩) else K (σ.set (slot t) ⟨ver, [(false, [.tr o (.bool false)])]⟩)
  | _ => K σ
def guardK (ops : Array Oper) (o : Oper) (σ : St) (K : St → R) : R := match o.guard with
  | none => K σ
  | some (g, _) => match (ops[g]?).bind (·.dst) with
    | some t => splitK t σ K
    | none => K σ
def opsK (ops : Array Oper) : List Oper → Nat → St → List (Nat × Log) → (St → List (Nat × Log) → R) → R
  | [], _, σ, Ls, K => K σ Ls
  | o :: l, i, σ, Ls, K => guardK ops o σ fun σ => (operP P ops o).evalK φ z σ [] fun _ σ L => opsK ops l (i + 1) σ ((i, L) :: Ls) K
def regionK (ops : Array Oper) (draw : Bool) (σ : St) (K : St → R) : R :=
  opsK P φ z ops ops.toList 0 (prep nt ops.toList σ) [] fun σ Ls => bif !draw || (okEdges ops.toList 0 && okLogs (befL ops.toList []) Ls) then K (norm keep σ) else z
end
section
variable {R : Type} (P : Program) (φ : Sems) (kp : Nat → List Nat) (nt : Nat) (z : R)
def loopK (body : St → (Ex → St → R) → R) : Nat → St → (Ex → St → R) → R
  | 0, _, _ => z
  | n + 1, σ, K => body σ fun e σ => match e with
    | .normal => loopK body n σ K
    | e => K e σ
def exec (n : Nat) : Code → St → (Ex → St → R) → R
  | .skip, σ, K => K .normal σ
  | .ret, σ, K => K .ret σ
  | .exit i, σ, K => K (.exit i) σ
  | .seq a b, σ, K => exec n a σ fun e σ => match e with
    | .normal => exec n b σ K
    | e => K e σ
  | .block i c, σ, K => exec n c σ fun e σ => match e with
    | .exit j => bif Nat.beq j i then K .normal σ else K (.exit j) σ
    | e => K e σ
  | .cond c a b, σ, K => match c with
    | .tmp t => match (σ.get (slot t)).rows with
      | [(false, [.tr _ (.bool p)])] => bif p then exec n a (σ.set (slot t) ⟨(σ.get (slot t)).ver, []⟩) K else exec n b (σ.set (slot t) ⟨(σ.get (slot t)).ver, []⟩) K
      | _ => z
    | .const (.bool p) => bif p then exec n a σ K else exec n b σ K
    | _ => z
  | .loop c, σ, K => loopK z (exec n c) n σ K
  | .region i ops draw, σ, K => regionK P φ (kp i) nt z ops draw σ (K .normal)
  | _, _, _ => z
end
/-! ### functions -/
def bodyOf (fn : Func) : Code := match fn.body with | some c => c | none => .skip
/-- What is kept behind each region (what is not listed: nothing). -/
def kpOf : List (Nat × List Nat) → Nat → List Nat
  | [], _ => []
  | (j, l) :: kp, i => bif Nat.beq j i then l else kpOf kp i
def argRow (nt i : Nat) (x : Arg) : Row :=
  bif Nat.beq x.1 1 || Nat.beq x.1 3 then (x.2.1, mapI (fun k c => viewC (ext i) z0 [0, k] c) 0 x.2.2)
  else bif Nat.beq x.1 2 then (false, [.pt (.ptr (box (nt + i)) 0 [] x.2.2.length 0 0)])
  else x.2
def argRoot (nt i : Nat) (x : Arg) (σ : St) : St :=
  bif Nat.beq x.1 1 || Nat.beq x.1 3 then (ext i, ⟨z0, [x.2]⟩) :: σ else bif Nat.beq x.1 2 then (box (nt + i), ⟨z0, [x.2]⟩) :: σ else σ
def initA (nt : Nat) : Nat → List Arg → St
  | _, [] => []
  | i, x :: l => (slot i, ⟨z0, [argRow nt i x]⟩) :: argRoot nt i x (initA nt (i + 1) l)
def resultP (P : Program) : ResultVar → Pr Row
  | .tmp t => (peekRow (.tmp t)).bind fun row => (takeRowC row).bind fun row => (mapP finC row.2).bind fun cs => .ret (row.1, cs)
  | .cell t ty => (peek1 (.tmp t)).bind fun a => match a with
    | .pt a => (loadP P ty a).bind fun row => (takeRowC row).bind fun row => (mapP finC row.2).bind fun cs => .ret (row.1, cs)
    | _ => .fail
/-- What the lent arguments hold behind the call. -/
def outP (nt i t : Nat) : Pr Row :=
  bif Nat.beq t 1 then .rd (ext i) fun ct => match ct.rows with
    | [row] => finRow row
    | _ => .fail
  else bif Nat.beq t 2 then .rd (box (nt + i)) fun ct => match ct.rows with
    | [row] => finRow row
    | _ => .fail
  else .ret (false, [])
def outsP (nt : Nat) : Nat → List Nat → Pr (List Row)
  | _, [] => .ret []
  | i, t :: l => (outP nt i t).bind fun r => (outsP nt (i + 1) l).bind fun rs => .ret (r :: rs)
def resultsK {R : Type} (P : Program) (φ : Sems) (z : R) (fn : Func) (ts : List Nat) (σ : St) (K : List Row → List Row → R) : R :=
  ((mapP (resultP P) fn.results.toList).bind fun rows => (outsP fn.ntmps 0 ts).bind fun outs => .ret (rows, outs)).evalK φ z σ [] fun r _ _ => K r.1 r.2
/-- One call, the calls in it by 'φ', with at most n rounds of each loop: the results, and what is lent behind it. -/
def body (P : Program) (φ : Sems) (kp : List (Nat × List Nat)) (n : Nat) (fn : Func) (args : List Arg) : Option (List Row × List Row) :=
  bif Nat.beq args.length (fn.params.size + fn.nfree) && Nat.ble args.length fn.ntmps then
    exec P φ (kpOf kp) fn.ntmps none n (bodyOf fn) (initA fn.ntmps 0 args) fun e σ => match e with
      | .exit _ => none
      | _ => resultsK P φ none fn (args.map (·.1)) σ fun rows outs => some (rows, outs)
  else none
end Go.Mach
