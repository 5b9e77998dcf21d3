/- Lemmas and definitions of the proof (M1 M2 M3 M4 M5 M6). Conditions: none. -/
import GoSem.Step
import Derived.Laws.BytesArg
import Derived.Laws.Sem
import Derived.Orders
import Derived.WalkKit
set_option linter.all false
namespace Go.Mach
def slot (t:Nat):Nat:=4 * t
def box (t:Nat):Nat:=4 * t+1
def ext (t:Nat):Nat:=4 * t+2
def park (t:Nat):Nat:=4 * t+3
abbrev Path:=List Nat
/-- Versions: what lies at a path has turned so many times. -/
abbrev Ver:=Path→Nat
def z0:Ver:=fun _=>0
def lenLe:Path→Path→Bool
 | [],_=>true
 | _ :: _,[]=>false
 | _ :: q,_ :: p=>lenLe q p
/-- Columns are compared, rows are not. -/
def meet:Path→Path→Bool
 | [],_=>true
 | [_],[]=>false
 | [_],_ :: _=>true
 | _ :: _ :: _,[]=>false
 | _ :: _ :: _,[_]=>false
 | _ :: c :: q,_ :: c' :: p=>Nat.beq c c'&&meet q p
/-- May a write at the first path turn what lies at the second? -/
def touch:Path→Path→Bool
 | i :: k :: q,i' :: k' :: p=>Nat.beq i i'&&(Nat.beq k k'&&meet q p)
 | [],_=>true
 | [_],_ :: _=>true
 | _,_=>false
def bump (q:Path) (v:Ver):Ver:=fun p=>bif touch q p then v p+1 else v p
def lenLt:Path→Path→Bool
 | _,[]=>false
 | [],_ :: _=>true
 | _ :: q,_ :: p=>lenLt q p
/-- May what lies under the first path lie at the second? -/
def deep:Path→Path→Bool
 | i :: k :: q,i' :: k' :: p=>Nat.beq i i'&&(Nat.beq k k'&&lenLt q p)
 | [],_ :: _=>true
 | [_],_ :: _=>true
 | _,_=>false
def bumpD (q:Path) (v:Ver):Ver:=fun p=>bif deep q p then v p+1 else v p
/-- A tree: what a cell holds, slices with their content (row, cell). -/
inductive T where
 | int (k:IntKind) (n:Int)
 | bool (b:Bool)
 | str (s:ByteArray)
 | arr (m n:Nat) (f:Nat→Nat→T)
 | hole
 | lent (m n:Nat)
/-- A pointer: to a cell of an array that a root owns, or into memory that nobody writes. -/
inductive Pt where
 | ptr (r:Nat) (ver:Nat) (p:Path) (m j k:Nat)
 | pim (m:Nat) (g:Nat→T)
/-- A cell of a slot or of a box. -/
inductive C where
 | tr (own:Bool) (t:T)
 | ref (r:Nat) (ver:Nat) (p:Path) (m s n:Nat)
 | pt (x:Pt)
 | fn (f:FuncId) (caps:List Pt)
 | dead
abbrev Row:=Bool × List C
structure Ct where
 ver:Ver
 rows:List Row
abbrev St:=List (Nat × Ct)
def St.get:St→Nat→Ct
 | [],_=>⟨z0,[]⟩
 | (r',c) :: s,r=>bif Nat.beq r' r then c else St.get s r
def St.set:St→Nat→Ct→St
 | [],_,_=>[]
 | (r',c') :: s,r,c=>bif Nat.beq r' r then (r',c) :: s else (r',c') :: St.set s r c
def St.has:St→Nat→Bool
 | [],_=>false
 | (r',_) :: s,r=>bif Nat.beq r' r then true else St.has s r
def St.add (σ:St) (r:Nat):St:=bif σ.has r then σ else σ ++ [(r,⟨z0,[]⟩)]
/-- What is done to a root: it is read, written, read no deeper than a path, turned at a path, its cells' heads are read, what lies under a path is turned. -/
inductive Acc where
 | rd | wr
 | hd (p:Path)
 | up (q:Path)
 | tp
 | dn (q:Path)
abbrev Log:=List (Nat × Acc)
/-- An argument: 0 borrowed, 1 lent, 2 a lent variable (by its pointer), 3 handed over. -/
abbrev Arg:=Nat × Row
/-- What a call does: nothing is told, or it hands over these results and these lent rows. -/
abbrev CallK:=(R:Type)→R→(List Row→List Row→R)→R
def DetK (c:CallK):Prop:=(∀ R z K,c R z K=z)∨∃ rs outs,∀ R z K,c R z K=K rs outs
structure Sems where
 md:FuncId→List Nat
 run:FuncId→List Arg→CallK
 det:∀ f ags,DetK (run f ags)
/-! ### trees -/
def T.at:T→Path→Option T
 | t,[]=>some t
 | .arr m n f,j :: k :: q=>bif Nat.blt j n&&Nat.blt k m then (f j k).at q else none
 | _,_=>none
termination_by structural _ p=>p
def T.put:T→Path→T→Option T
 | _,[],u=>some u
 | .arr m n f,j :: k :: q,u=>bif Nat.blt j n&&Nat.blt k m then
   match (f j k).put q u with
   | some v=>some (.arr m n fun j' k'=>bif Nat.beq j' j&&Nat.beq k' k then v else f j' k')
   | none=>none
  else none
 | _,_,_=>none
termination_by structural _ p=>p
def T.okAt:T→Path→Bool
 | _,[]=>true
 | .arr m n f,j :: k :: q=>(Nat.blt j n&&Nat.blt k m)&&(f j k).okAt q
 | _,_=>false
termination_by structural _ p=>p
def T.get:T→Path→T
 | t,[]=>t
 | .arr _ _ f,j :: k :: q=>(f j k).get q
 | _,_=>.hole
termination_by structural _ p=>p
def setF (j k:Nat) (v:T) (f:Nat→Nat→T) (j' k':Nat):T:=bif Nat.beq j' j&&Nat.beq k' k then v else f j' k'
def T.set:T→Path→T→T
 | _,[],u=>u
 | .arr m n f,j :: k :: q,u=>.arr m n (setF j k ((f j k).set q u) f)
 | t,_,_=>t
termination_by structural _ p=>p
def T.wd:T→Nat
 | .arr m _ _=>m
 | _=>0
def T.ln:T→Nat
 | .arr _ n _=>n
 | _=>0
def T.fn:T→Nat→Nat→T
 | .arr _ _ f=>f
 | _=>fun _ _=>.hole
def T.isArr:T→Bool
 | .arr ..=>true
 | _=>false
def T.toI:T→Int
 | .int _ n=>n
 | _=>0
def T.toB:T→Bool
 | .bool b=>b
 | _=>false
def T.toS:T→ByteArray
 | .str s=>s
 | _=>ByteArray.empty
def T.isI (k:IntKind):T→Bool
 | .int k' _=>decide (k'=k)
 | _=>false
def T.isB:T→Bool
 | .bool _=>true
 | _=>false
def T.isS:T→Bool
 | .str _=>true
 | _=>false
/-- A part of an array's rows. -/
def cutT (s n:Nat) (f:Nat→Nat→T) (j k:Nat):T:=bif Nat.blt j n then f (s+j) k else .hole
/-- What a cell of a type is like (z: the type's zero). -/
def okShape:C→T→Bool
 | .tr _ (.int k _),u=>u.isI k
 | .tr _ (.bool _),u=>u.isB
 | .tr _ (.str _),u=>u.isS
 | .tr _ (.arr m _ _),u=>u.isArr&&Nat.beq u.wd m
 | _,_=>false
def shapeT:C→T→T
 | .tr _ (.int k _),u=>.int k u.toI
 | .tr _ (.bool _),u=>.bool u.toB
 | .tr _ (.str _),u=>.str u.toS
 | .tr _ (.arr m _ _),u=>.arr m u.ln u.fn
 | _,u=>u
def okShapes (zs:List C) (g:Nat→T):Nat→Bool
 | 0=>true
 | n+1=>okShapes zs g n&&match zs[n]? with
  | some z=>okShape z (g n)
  | none=>false
def shapeAt (zs:List C) (g:Nat→T) (i:Nat):T:=match zs[i]? with
 | some z=>shapeT z (g i)
 | none=>g i
def T.flat:T→Bool
 | .arr ..=>false
 | _=>true
/-- A scalar ags it is, nothing of an array. -/
def T.plain:T→T
 | .arr ..=>.hole
 | .lent ..=>.hole
 | t=>t
def rowsAt (rows:List Row):Path→Option T
 | i :: k :: q=>match rows[i]? with
  | some (_,cs)=>match cs[k]? with
   | some (.tr true t)=>t.at q
   | _=>none
  | none=>none
 | _=>none
def rowsPut (rows:List Row) (u:T):Path→Option (List Row)
 | i :: k :: q=>match rows[i]? with
  | some (g,cs)=>match cs[k]? with
   | some (.tr true t)=>match t.put q u with
    | some v=>some (rows.set i (g,cs.set k (.tr true v)))
    | none=>none
   | _=>none
  | none=>none
 | _=>none
def rowsCell (rows:List Row) (i k:Nat):T:=match rows[i]? with
 | some (_,cs)=>match cs[k]? with
  | some (.tr true t)=>t
  | _=>.hole
 | none=>.hole
def rowsOk (rows:List Row):Path→Bool
 | i :: k :: q=>match rows[i]? with
  | some (_,cs)=>match cs[k]? with
   | some (.tr true t)=>t.okAt q
   | _=>false
  | none=>false
 | _=>false
def rowsGet (rows:List Row):Path→T
 | i :: k :: q=>(rowsCell rows i k).get q
 | _=>.hole
def rowsSet (rows:List Row) (u:T):Path→List Row
 | i :: k :: q=>match rows[i]? with
  | some (g,cs)=>rows.set i (g,cs.set k (.tr true ((rowsCell rows i k).set q u)))
  | none=>rows
 | _=>rows
def mapI {α β:Type} (g:Nat→α→β):Nat→List α→List β
 | _,[]=>[]
 | i,a :: l=>g i a :: mapI g (i+1) l
/-! ### a cell is turned at a path; what such a turn leaves ags it is -/
def cellOk (rows:List Row):Path→Bool
 | i :: k :: _=>match rows[i]? with
  | some (_,cs)=>match cs[k]? with
   | some (.tr true _)=>true
   | _=>false
  | none=>false
 | _=>false
def updC (q:Path) (u:T) (ct:Ct):Ct:=⟨bump q ct.ver,rowsSet ct.rows u q⟩
/-- What a read no deeper than a path hands over: what is asked for, and cells. -/
abbrev Hd:=Bool × Bool × Bool × List C
def HdOk (p:Path) (g:Ct→Hd):Prop:=∀ ct q u,touch q p=false→cellOk ct.rows q=true→g (updC q u ct)=g ct
def viewC (r:Nat) (ver:Ver) (p:Path):C→C
 | .tr true (.arr m n _)=>.ref r (ver p) p m 0 n
 | .tr true (.lent ..)=>.dead
 | c=>c
def viewRows (r:Nat) (ver:Ver) (rows:List Row):List Row :=
 mapI (fun i (row:Row)=>(row.1,mapI (fun k c=>viewC r ver [i,k] c) 0 row.2)) 0 rows
/-- An array's content is another one, its head stays. -/
def T.reHd:T→T→T
 | .arr m n _,u=>.arr m n u.fn
 | t,_=>t
/-- What lies under an array's rows is turned. -/
def mvC (q:Path) (u:T) (ct:Ct):Ct:=⟨bumpD q ct.ver,rowsSet ct.rows ((rowsGet ct.rows q).reHd u) q⟩
/-- Programs over the roots. -/
inductive Pr (α:Type) where
 | ret (a:α)
 | rd (r:Nat) (k:Ct→Pr α)
 | wr (r:Nat) (c:Ct) (k:Pr α)
 | hdr (r:Nat) (p:Path) (g:Ct→Hd) (hg:HdOk p g) (k:Hd→Pr α)
 | up (r:Nat) (q:Path) (u:T) (k:Pr α)
 | tp (r:Nat) (k:List Row→Pr α)
 | mv (r:Nat) (q:Path) (u:T) (k:Pr α)
 | call (f:FuncId) (args:List Arg) (k:List Row→List Row→Pr α)
 | ask (f:FuncId) (k:List Nat→Pr α)
 | br (b:Bool) (x y:Pr α)
 | fail
namespace Pr
def bind {α β:Type}:Pr α→(α→Pr β)→Pr β
 | ret a,g=>g a
 | rd r k,g=>rd r fun c=>(k c).bind g
 | wr r c k,g=>wr r c (k.bind g)
 | hdr r p h hh k,g=>hdr r p h hh fun x=>(k x).bind g
 | up r q u k,g=>up r q u (k.bind g)
 | tp r k,g=>tp r fun x=>(k x).bind g
 | mv r q u k,g=>mv r q u (k.bind g)
 | call f a k,g=>call f a fun c o=>(k c o).bind g
 | ask f k,g=>ask f fun m=>(k m).bind g
 | br b x y,g=>br b (x.bind g) (y.bind g)
 | fail,_=>fail
def run {α:Type} (φ:Sems):Pr α→St→Log→Option (α × St × Log)
 | ret a,σ,L=>some (a,σ,L)
 | rd r k,σ,L=>(k (σ.get r)).run φ σ ((r,.rd) :: L)
 | wr r c k,σ,L=>bif σ.has r then k.run φ (σ.set r c) ((r,.wr) :: L) else none
 | hdr r p g _ k,σ,L=>(k (g (σ.get r))).run φ σ ((r,.hd p) :: L)
 | up r q u k,σ,L=>bif σ.has r&&cellOk (σ.get r).rows q then k.run φ (σ.set r (updC q u (σ.get r))) ((r,.up q) :: L) else none
 | tp r k,σ,L=>(k (viewRows r (σ.get r).ver (σ.get r).rows)).run φ σ ((r,.tp) :: L)
 | mv r q u k,σ,L=>bif σ.has r&&cellOk (σ.get r).rows q then k.run φ (σ.set r (mvC q u (σ.get r))) ((r,.dn q) :: L) else none
 | call f a k,σ,L=>φ.run f a (Option (α × St × Log)) none fun rs outs=>(k rs outs).run φ σ L
 | ask f k,σ,L=>(k (φ.md f)).run φ σ L
 | br b x y,σ,L=>bif b then x.run φ σ L else y.run φ σ L
 | fail,_,_=>none
def evalK {α R:Type} (φ:Sems) (z:R):Pr α→St→Log→(α→St→Log→R)→R
 | ret a,σ,L,K=>K a σ L
 | rd r k,σ,L,K=>(k (σ.get r)).evalK φ z σ ((r,.rd) :: L) K
 | wr r c k,σ,L,K=>bif σ.has r then k.evalK φ z (σ.set r c) ((r,.wr) :: L) K else z
 | hdr r p g _ k,σ,L,K=>(k (g (σ.get r))).evalK φ z σ ((r,.hd p) :: L) K
 | up r q u k,σ,L,K=>bif σ.has r&&cellOk (σ.get r).rows q then k.evalK φ z (σ.set r (updC q u (σ.get r))) ((r,.up q) :: L) K else z
 | tp r k,σ,L,K=>(k (viewRows r (σ.get r).ver (σ.get r).rows)).evalK φ z σ ((r,.tp) :: L) K
 | mv r q u k,σ,L,K=>bif σ.has r&&cellOk (σ.get r).rows q then k.evalK φ z (σ.set r (mvC q u (σ.get r))) ((r,.dn q) :: L) K else z
 | call f a k,σ,L,K=>φ.run f a R z fun rs outs=>(k rs outs).evalK φ z σ L K
 | ask f k,σ,L,K=>(k (φ.md f)).evalK φ z σ L K
 | br b x y,σ,L,K=>bif b then x.evalK φ z σ L K else y.evalK φ z σ L K
 | fail,_,_,_=>z
end Pr
def guardP {α:Type} (b:Bool) (k:Pr α):Pr α:=.br b k .fail
def mapP {α β:Type} (g:α→Pr β):List α→Pr (List β)
 | []=>.ret []
 | a :: l=>(g a).bind fun b=>(mapP g l).bind fun bs=>.ret (b :: bs)
def arrAt {α:Type} (rows:List Row) (p:Path) (k:Nat→Nat→(Nat→Nat→T)→Pr α):Pr α :=
 guardP (rowsOk rows p&&(rowsGet rows p).isArr) (k (rowsGet rows p).wd (rowsGet rows p).ln (rowsGet rows p).fn)
/-! ### values of the text -/
def ofCell:Value→C
 | .int k n=>.tr true (.int k n)
 | .bool b=>.tr true (.bool b)
 | .string s=>.tr true (.str s)
 | .slice none 0 0=>.tr true (.arr 0 0 fun _ _=>.hole)
 | _=>.dead
def ofValue:Value→Option Row
 | .agg cs=>bif cs.toList.all (·.oneCell') then some (true,cs.toList.map ofCell) else none
 | v=>bif v.oneCell' then some (false,[ofCell v]) else none
/-! ### operands -/
def peek (x:Operand):Pr (List Row) :=
 match x with
 | .tmp t=>.rd (slot t) fun ct=>.ret (viewRows (slot t) ct.ver ct.rows)
 | .const v=>match ofValue v with
  | some r=>.ret [r]
  | none=>.fail
 | .func f=>.ret [(false,[.fn f []])]
 | .global _=>.fail
def peekT (x:Operand):Pr (List Row):=match x with
 | .tmp t=>.tp (slot t) fun rows=>.ret rows
 | x=>peek x
def peekRow (x:Operand):Pr Row:=(peek x).bind fun rows=>match rows with
 | [r]=>.ret r
 | _=>.fail
def peek1 (x:Operand):Pr C:=(peekRow x).bind fun row=>match row with
 | (false,[c])=>.ret c
 | _=>.fail
def put (dst:Option Tmp) (rows:List Row):Pr Unit :=
 match dst with
 | some d=>.rd (slot d) fun ct=>.wr (slot d) ⟨bump [] ct.ver,rows⟩ (.ret ())
 | none=>.ret ()
def put1 (dst:Option Tmp) (c:C):Pr Unit:=put dst [(false,[c])]
def putT (dst:Option Tmp) (t:T):Pr Unit:=put1 dst (.tr true t)
/-- Take the content of a cell away from where it lies. -/
def takeC:C→Pr C
 | .ref r ver p m s n=>bif Nat.beq (r % 4) 2 then .ret (.ref r ver p m s n) else .rd r fun ct=>arrAt ct.rows p fun m' n' f=>guardP (Nat.beq (ct.ver p) ver&&(Nat.beq s 0&&(Nat.ble n n'&&Nat.beq m m'))) (.up r p .hole (.ret (.tr true (.arr m n f))))
 | c=>.ret c
/-- For a variable: what lies in an array's element of another variable stays there. -/
def takeS:C→Pr C
 | .ref r ver p m s n=>bif Nat.beq (r % 4) 1&&Nat.blt 2 p.length then .ret (.ref r ver p m s n) else takeC (.ref r ver p m s n)
 | c=>.ret c
def tkFor:Pt→C→Pr C
 | .ptr _ _ [] _ _ _=>takeS
 | _=>takeC
def takeRowT (tk:C→Pr C) (row:Row):Pr Row:=(mapP tk row.2).bind fun cs=>.ret (row.1,cs)
def takeRowC (row:Row):Pr Row:=takeRowT takeC row
def takeRowBy (tk:C→Pr C) (x:Operand):Pr Row:=(peekRow x).bind (takeRowT tk)
def takeRow (x:Operand):Pr Row:=takeRowBy takeC x
/-- What a cell may bring into an array that a root owns. -/
def ownT:C→Option T
 | .tr true t=>some t
 | .tr false (.arr ..)=>none
 | .tr false (.lent ..)=>none
 | .tr false t=>some t
 | _=>none
def ownTs:List C→Option (List T)
 | []=>some []
 | c :: cs=>match ownT c,ownTs cs with
  | some t,some ts=>some (t :: ts)
  | _,_=>none
/-- A cell of a box, ags memory that nobody writes. -/
def imT:C→T
 | .tr _ t=>t
 | _=>.hole
def pimF (ts:List T) (i:Nat):T:=ts.getD i .hole
theorem pimF_at {cs:List C} {k i:Nat}:pimF ((cs.drop k).map imT) i=match cs[k+i]? with | some c=>imT c | none=>.hole:=by
 unfold pimF
 rw [List.getD_eq_getElem?_getD,List.getElem?_map,List.getElem?_drop]
 cases cs[k+i]? <;> rfl
def resPt:Pt→Pr Pt
 | .ptr r ver p m j k=>.rd r fun ct=>guardP (Nat.beq (ct.ver p) ver) (match p with
  | []=>match ct.rows[j]? with
   | some (_,cs)=>guardP (Nat.beq m cs.length) (.ret (.pim (m - k) (pimF ((cs.drop k).map imT))))
   | none=>.fail
  | p=>arrAt ct.rows p fun m' n' f=>guardP (Nat.beq m m'&&Nat.blt j n') (.ret (.pim (m - k) fun i=>f j (k+i))))
 | .pim m g=>.ret (.pim m g)
/-- The content of a cell, ags memory that nobody writes: for a call. -/
def resC:C→Pr C
 | .tr _ t=>.ret (.tr false t)
 | .ref r ver p m s n=>.rd r fun ct=>arrAt ct.rows p fun m' n' f=>guardP (Nat.beq (ct.ver p) ver&&(Nat.beq m m'&&Nat.ble (s+n) n')) (.ret (.tr false (.arr m n (cutT s n f))))
 | .pt x=>(resPt x).bind fun x=>.ret (.pt x)
 | .fn f caps=>(mapP resPt caps).bind fun caps=>.ret (.fn f caps)
 | .dead=>.fail
def resRow (row:Row):Pr Row:=(mapP resC row.2).bind fun cs=>.ret (row.1,cs)
/-! ### types -/
section
variable (P:Program)
def szOf (t:TypeId):Nat:=match P.info? t with | some i=>i.size | none=>0
def bytesOf (t:TypeId):Nat:=match P.info? t with | some i=>i.bytes | none=>0
def isAg (t:TypeId):Bool:=match P.underlying t with | some (.struct _)=>true | some (.array ..)=>true | _=>false
/-- How many cells a variable's load hands over. -/
def szA (t:TypeId):Nat:=bif isAg P t then szOf P t else 1
/-- The types of a type's cells. -/
def cellTys:Nat→TypeId→List TypeId
 | 0,t=>[t]
 | d+1,t=>match P.underlying t with
  | some (.struct fs)=>fs.toList.flatMap fun f=>cellTys d f.type
  | _=>[t]
def typC (t:TypeId):C→C
 | .tr true (.arr m n f)=>bif Nat.beq m 0 then match P.underlying t with
   | some (.slice e)=>.tr true (.arr (szOf P e) 0 fun _ _=>.hole)
   | _=>.tr true (.arr m n f)
  else .tr true (.arr m n f)
 | c=>c
def typCs:List TypeId→List C→List C
 | t :: ts,c :: cs=>typC P t c :: typCs ts cs
 | _,cs=>cs
def zeroRow (t:TypeId):Row:=match P.info? t with
 | some i=>match i.zero with
  | some v=>match ofValue v with
   | some r=>(r.1,typCs P (cellTys P 20 t) r.2)
   | none=>(false,[])
  | none=>(false,[])
 | none=>(false,[])
def okTy (t:TypeId):Bool:=(P.underlying t).isSome
def fieldOf (t:TypeId) (k:Nat):Option (Nat × TypeId):=match P.underlying t with
 | some (.struct fs)=>match fs[k]? with
  | some f=>some (f.offset,f.type)
  | none=>none
 | _=>none
def elemTy (t:TypeId):Option TypeId:=match P.underlying t with
 | some (.slice e)=>some e
 | _=>none
/-- A row's size, of a type that has cells. -/
def isSz (m:Nat) (e:TypeId):Bool:=Nat.beq m (szOf P e)&&!Nat.beq m 0
/-! ### what a turn leaves ags it is: the proofs -/
theorem bump_off {q p:Path} (h:touch q p=false) (v:Ver):bump q v p=v p:=by unfold bump;rw [h];rfl
theorem touch_two {q:Path} {j k:Nat} {p:Path} (h:touch q (j :: k :: p)=false):∃ i k' q',q=i :: k' :: q'∧(Nat.beq i j&&(Nat.beq k' k&&meet q' p))=false:=by
 match q,h with
 | [],h=>simp [touch] at h
 | [_],h=>simp [touch] at h
 | i :: k' :: q',h=>exact ⟨i,k',q',rfl,h⟩
theorem meet_app:∀ (q p l:Path),meet q (p ++ l)=false→meet q p=false
 | [],_,_,h=>by simp [meet] at h
 | [_],[],_,_=>rfl
 | [_],_ :: _,_,h=>by simp [meet] at h
 | _ :: _ :: _,[],_,_=>rfl
 | _ :: _ :: _,[_],_,_=>rfl
 | _ :: c :: q,_ :: c' :: p,l,h=>by
  simp only [List.cons_append,meet] at h ⊢
  cases h1:Nat.beq c c' with
  | false=>rfl
  | true =>
   rw [h1] at h
   exact meet_app q p l h
theorem touch_app {q p:Path} (l:Path) (hp:∃ i k p',p=i :: k :: p') (h:touch q (p ++ l)=false):touch q p=false:=by
 obtain ⟨i,k,p',rfl⟩:=hp
 obtain ⟨i',k',q',rfl,hd⟩:=touch_two (p:=p' ++ l) h
 simp only [touch]
 cases h1:Nat.beq i' i with
 | false=>rfl
 | true=>cases h2:Nat.beq k' k with
  | false=>rfl
  | true =>
   rw [h1,h2] at hd
   exact meet_app q' p' l hd
theorem beq_n {a b:Nat} (h:Nat.beq a b=true):a=b:=Nat.eq_of_beq_eq_true h
/-- Two trees of the same head. -/
def HeadEq (t t':T):Prop:=t=t'∨∃ m n f f',t=.arr m n f∧t'=.arr m n f'
def HeadEq2 (k:Nat) (t t':T):Prop:=t=t'∨∃ m n f f',t=.arr m n f∧t'=.arr m n f'∧∀ a,HeadEq (f a k) (f' a k)
theorem set_head (t u:T):∀ {q:Path},q≠[]→HeadEq (t.set q u) t
 | [],h=>absurd rfl h
 | [x],_=>.inl (by cases t <;> rfl)
 | x :: y :: q,_=>by
  cases t with
  | arr m n f=>exact .inr ⟨m,n,_,f,rfl,rfl⟩
  | _=>exact .inl rfl
theorem set_okAt (u:T):∀ (p q:Path) (t:T),meet q p=false→(t.set q u).okAt p=t.okAt p
 | [],q,t,h=>by simp only [T.okAt]
 | [x],q,t,h=>by
  have:∀ t:T,t.okAt [x]=false:=fun t=>by cases t <;> rfl
  rw [this,this]
 | a :: b :: p,[],t,h=>by simp [meet] at h
 | a :: b :: p,[_],t,h=>by simp [meet] at h
 | a :: b :: p,c :: d :: q,t,h=>by
  cases t with
  | arr m n f =>
   simp only [T.set,T.okAt,setF]
   cases h1:Nat.beq a c with
   | false=>rfl
   | true=>cases h2:Nat.beq b d with
    | false=>rfl
    | true =>
     have e1:=beq_n h1;have e2:=beq_n h2
     subst e1;subst e2
     simp only [Bool.and_self,cond_true]
     simp only [meet,Nat.beq_refl,Bool.true_and] at h
     rw [set_okAt u p q (f a b) h]
  | _=>rfl
theorem set_get2 (u:T) (j k:Nat):∀ (p q:Path) (t:T),meet q (p ++ [j,k])=false→HeadEq2 k ((t.set q u).get p) (t.get p)
 | [],[],t,h=>by simp [meet] at h
 | [],[_],t,h=>by simp [meet] at h
 | [],c :: d :: q,t,h=>by
  cases t with
  | arr m n f =>
   refine .inr ⟨m,n,_,f,rfl,rfl,fun a=>?_⟩
   simp only [setF]
   cases hh:(Nat.beq a c&&Nat.beq k d) with
   | false=>exact .inl rfl
   | true =>
    simp only [Bool.and_eq_true] at hh
    have e1:=beq_n hh.1;have e2:=beq_n hh.2
    subst e1;subst e2
    exact set_head _ _ fun e=>by subst e;simp [meet] at h
  | _=>exact .inl rfl
 | [x],q,t,h=>by
  have:∀ t:T,t.get [x]=.hole:=fun t=>by cases t <;> rfl
  rw [this,this]
  exact .inl rfl
 | a :: b :: p,[],t,h=>by simp [meet] at h
 | a :: b :: p,[_],t,h=>by simp [meet] at h
 | a :: b :: p,c :: d :: q,t,h=>by
  cases t with
  | arr m n f =>
   simp only [T.set,T.get,setF]
   cases hh:(Nat.beq a c&&Nat.beq b d) with
   | false=>exact .inl rfl
   | true =>
    simp only [Bool.and_eq_true] at hh
    have e1:=beq_n hh.1;have e2:=beq_n hh.2
    subst e1;subst e2
    simp only [List.cons_append,meet,Nat.beq_refl,Bool.true_and] at h
    exact set_get2 u j k p q (f a b) h
  | _=>exact .inl rfl
theorem okShape_head {t t':T} (h:HeadEq t t') (z:C):okShape z t=okShape z t':=by
 rcases h with rfl | ⟨m,n,f,f',rfl,rfl⟩
 ·rfl
 ·cases z with
  | tr o x=>cases x <;> rfl
  | _=>rfl
theorem viewShape_head {g g':Nat→T} (h:HeadEq (g 0) (g' 0)) (r:Nat) (v:Ver) (p:Path) (zs:List C) (i:Nat) (hi:i=0):viewC r v p (.tr true (shapeAt zs g i))=viewC r v p (.tr true (shapeAt zs g' i)):=by
 subst hi
 unfold shapeAt
 rcases h with h | ⟨m,n,f,f',h,h'⟩
 ·rw [h]
 ·rw [h,h']
  cases zs[0]? with
  | none=>rfl
  | some z=>cases z with
   | tr o x=>cases x <;> rfl
   | _=>rfl
/-- What a turn does to the rows. -/
theorem upd_row {rows:List Row} {i k':Nat} {q':Path} {u:T} (h:cellOk rows (i :: k' :: q')=true) :
  ∃ g cs t,rows[i]?=some (g,cs)∧cs[k']?=some (.tr true t)∧rowsCell rows i k'=t∧rowsSet rows u (i :: k' :: q')=rows.set i (g,cs.set k' (.tr true (t.set q' u))):=by
 simp only [cellOk] at h
 split at h
 ·rename_i g cs hi
  split at h
  ·rename_i t hk
   have hc:rowsCell rows i k'=t:=by simp only [rowsCell,hi,hk]
   exact ⟨g,cs,t,hi,hk,hc,by simp only [rowsSet,hi,hc]⟩
  ·cases h
 ·cases h
theorem get_lt {α:Type} {l:List α} {i:Nat} {x:α} (h:l[i]?=some x):i < l.length:=(List.getElem?_eq_some_iff.1 h).1
/-- Another cell is ags it was. -/
theorem upd_cell {rows:List Row} {i k':Nat} {q':Path} {u:T} (h:cellOk rows (i :: k' :: q')=true) {j k:Nat} (hn:¬ (i=j∧k'=k)) :
  rowsCell (rowsSet rows u (i :: k' :: q')) j k=rowsCell rows j k∧∀ p,rowsOk (rowsSet rows u (i :: k' :: q')) (j :: k :: p)=rowsOk rows (j :: k :: p):=by
 obtain ⟨g,cs,t,hi,hk,_,e⟩:=upd_row (u:=u) h
 rw [e]
 by_cases e1:i=j
 ·subst e1
  have e2:¬ k'=k:=fun e2=>hn ⟨rfl,e2⟩
  have hr:(rows.set i (g,cs.set k' (.tr true (t.set q' u))))[i]?=some (g,cs.set k' (.tr true (t.set q' u))):=by rw [List.getElem?_set_self (get_lt hi)]
  have hc:(cs.set k' (.tr true (t.set q' u)))[k]?=cs[k]?:=List.getElem?_set_ne e2
  refine ⟨by simp only [rowsCell,hr,hi,hc],fun p=>by simp only [rowsOk,hr,hi,hc]⟩
 ·have hr:(rows.set i (g,cs.set k' (.tr true (t.set q' u))))[j]?=rows[j]?:=List.getElem?_set_ne e1
  refine ⟨by simp only [rowsCell,hr],fun p=>by simp only [rowsOk,hr]⟩
theorem upd_same {rows:List Row} {i k':Nat} {q':Path} {u:T} (h:cellOk rows (i :: k' :: q')=true) :
  rowsCell (rowsSet rows u (i :: k' :: q')) i k'=(rowsCell rows i k').set q' u∧∀ p,rowsOk (rowsSet rows u (i :: k' :: q')) (i :: k' :: p)=((rowsCell rows i k').set q' u).okAt p∧rowsOk rows (i :: k' :: p)=(rowsCell rows i k').okAt p:=by
 obtain ⟨g,cs,t,hi,hk,hc,e⟩:=upd_row (u:=u) h
 have hr:(rows.set i (g,cs.set k' (.tr true (t.set q' u))))[i]?=some (g,cs.set k' (.tr true (t.set q' u))):=by rw [List.getElem?_set_self (get_lt hi)]
 have hc':(cs.set k' (.tr true (t.set q' u)))[k']?=some (.tr true (t.set q' u)):=by rw [List.getElem?_set_self (get_lt hk)]
 rw [e,hc]
 exact ⟨by simp only [rowsCell,hr,hc'],fun p=>⟨by simp only [rowsOk,hr,hc'],by simp only [rowsOk,hi,hk]⟩⟩
theorem drop_take1 {α:Type}:∀ (l:List α) (k:Nat),(l.drop k).take 1=l[k]?.toList
 | [],k=>by simp
 | a :: l,0=>by simp
 | a :: l,k+1=>by simpa using drop_take1 l k
/-! ### memory -/
/-- A cell of a variable, ags it is seen. -/
def hdB (P:Program) (t:TypeId) (r ver j k:Nat) (ct:Ct):Hd :=
 (Nat.beq (ct.ver []) ver,(match ct.rows[j]? with | some (_,cs)=>okTy P t&&Nat.ble (k+1) cs.length | none=>false),true,
  match ct.rows[j]? with | some (_,cs)=>mapI (fun i c=>viewC r ct.ver [j,k+i] c) 0 ((cs.drop k).take 1) | none=>[])
theorem hdB_ok (P:Program) (t:TypeId) (r ver j k:Nat):HdOk [j,k] (hdB P t r ver j k):=by
 intro ct q u ht hc
 obtain ⟨i,k',q',rfl,hd⟩:=touch_two ht
 obtain ⟨g,cs,x,hi,hk,hcell,e⟩:=upd_row (u:=u) hc
 unfold hdB updC
 have hv:bump (i :: k' :: q') ct.ver []=ct.ver []:=bump_off rfl _
 have hvp:bump (i :: k' :: q') ct.ver [j,k+0]=ct.ver [j,k+0]:=bump_off ht _
 simp only [hv,e]
 by_cases e1:i=j
 ·subst e1
  have hr:(ct.rows.set i (g,cs.set k' (.tr true (x.set q' u))))[i]?=some (g,cs.set k' (.tr true (x.set q' u))):=by rw [List.getElem?_set_self (get_lt hi)]
  simp only [hr,hi,List.length_set,drop_take1]
  by_cases e2:k'=k
  ·subst e2
   have hq:q'≠[]:=fun e=>by
    subst e
    simp [meet,Nat.beq_refl] at hd
   rw [List.getElem?_set_self (get_lt hk),hk]
   simp only [Option.toList_some,mapI]
   congr 4
   rcases set_head x u hq with h | ⟨m,n,f,f',h1,h2⟩
   ·rw [h]
    cases x <;> simp only [viewC,hvp]
   ·rw [h1,h2]
    simp only [viewC,hvp]
  ·rw [List.getElem?_set_ne e2]
   cases cs[k]? with
   | none=>rfl
   | some c =>
    simp only [Option.toList_some,mapI]
    congr 4
    cases c with
    | tr o y=>cases o <;> cases y <;> simp only [viewC,hvp]
    | _=>rfl
 ·have hr:(ct.rows.set i (g,cs.set k' (.tr true (x.set q' u))))[j]?=ct.rows[j]?:=List.getElem?_set_ne e1
  simp only [hr]
  cases ct.rows[j]? with
  | none=>rfl
  | some y =>
   obtain ⟨g',ds⟩:=y
   simp only [drop_take1]
   cases ds[k]? with
   | none=>rfl
   | some c =>
    simp only [Option.toList_some,mapI]
    congr 4
    cases c with
    | tr o y=>cases o <;> cases y <;> simp only [viewC,hvp]
    | _=>rfl
/-- A cell of an array's element, ags it is seen. -/
def hdE (P:Program) (t:TypeId) (r ver:Nat) (p:Path) (m j k:Nat) (ct:Ct):Hd :=
 (Nat.beq (ct.ver p) ver,rowsOk ct.rows p&&(rowsGet ct.rows p).isArr,
  (okTy P t&&(Nat.beq m (rowsGet ct.rows p).wd&&(Nat.blt j (rowsGet ct.rows p).ln&&Nat.ble (k+1) m)))&&okShapes (zeroRow P t).2 (fun i=>(rowsGet ct.rows p).fn j (k+i)) 1,
  (List.range 1).map fun i=>viewC r ct.ver (p ++ [j,k+i]) (.tr true (shapeAt (zeroRow P t).2 (fun i=>(rowsGet ct.rows p).fn j (k+i)) i)))
theorem hdE_ok (P:Program) (t:TypeId) (r ver:Nat) (p:Path) (m j k:Nat) (hp:p≠[]):HdOk (p ++ [j,k]) (hdE P t r ver p m j k):=by
 intro ct q u ht hc
 have key:∀ (G G':T) (v v':Ver) (b b':Bool),v p=v' p→v (p ++ [j,k+0])=v' (p ++ [j,k+0])→b=b'→HeadEq2 k G G' →
   ((Nat.beq (v p) ver,b&&G.isArr,(okTy P t&&(Nat.beq m G.wd&&(Nat.blt j G.ln&&Nat.ble (k+1) m)))&&okShapes (zeroRow P t).2 (fun i=>G.fn j (k+i)) 1,
    (List.range 1).map fun i=>viewC r v (p ++ [j,k+i]) (.tr true (shapeAt (zeroRow P t).2 (fun i=>G.fn j (k+i)) i))):Hd) =
   (Nat.beq (v' p) ver,b'&&G'.isArr,(okTy P t&&(Nat.beq m G'.wd&&(Nat.blt j G'.ln&&Nat.ble (k+1) m)))&&okShapes (zeroRow P t).2 (fun i=>G'.fn j (k+i)) 1,
    (List.range 1).map fun i=>viewC r v' (p ++ [j,k+i]) (.tr true (shapeAt (zeroRow P t).2 (fun i=>G'.fn j (k+i)) i))):=by
  intro G G' v v' b b' h1 h2 h3 h4
  subst h3
  have hview:∀ c,viewC r v (p ++ [j,k+0]) c=viewC r v' (p ++ [j,k+0]) c:=fun c=>by
   cases c with
   | tr o y=>cases o <;> cases y <;> simp only [viewC,h2]
   | _=>rfl
  rcases h4 with rfl | ⟨m0,n0,f,f',rfl,rfl,hf⟩
  ·rw [h1]
   simp only [List.range_one,List.map_cons,List.map_nil,hview]
  ·rw [h1]
   have hh:HeadEq ((fun i=>f j (k+i)) 0) ((fun i=>f' j (k+i)) 0):=hf _
   simp only [List.range_one,List.map_cons,List.map_nil,hview,T.isArr,T.wd,T.ln,T.fn,okShapes]
   congr 3
   ·congr 1
    cases (zeroRow P t).2[0]? with
    | none=>rfl
    | some z=>exact congrArg _ (okShape_head hh z)
   ·rw [viewShape_head (g:=fun i=>f j (k+i)) (g':=fun i=>f' j (k+i)) hh r v' _ _ 0 rfl]
 match p,hp,ht,key with
 | [x],_,ht,key =>
  obtain ⟨i,k',q',rfl,hd⟩:=touch_two (p:=[k]) ht
  exact key _ _ (bump (i :: k' :: q') ct.ver) ct.ver _ _ (bump_off rfl _) (bump_off ht _) rfl (.inl rfl)
 | a :: b :: p',_,ht,key =>
  obtain ⟨i,k',q',rfl,hd⟩:=touch_two (p:=p' ++ [j,k]) ht
  have hp1:touch (i :: k' :: q') (a :: b :: p')=false:=touch_app [j,k] ⟨a,b,p',rfl⟩ ht
  by_cases e:i=a∧k'=b
  ·obtain ⟨rfl,rfl⟩:=e
   have hl:meet q' (p' ++ [j,k])=false:=by
    rw [show Nat.beq i i=true from Nat.beq_refl i,show Nat.beq k' k'=true from Nat.beq_refl k'] at hd
    exact hd
   obtain ⟨h1,h2⟩:=upd_same (u:=u) hc
   refine key _ _ (bump (i :: k' :: q') ct.ver) ct.ver _ _ (bump_off hp1 _) (bump_off ht _) ?_ ?_
   ·show rowsOk (rowsSet ct.rows u (i :: k' :: q')) (i :: k' :: p')=rowsOk ct.rows (i :: k' :: p')
    rw [(h2 p').1,(h2 p').2]
    exact set_okAt u p' q' _ (meet_app _ _ _ hl)
   ·show HeadEq2 k ((rowsCell (rowsSet ct.rows u (i :: k' :: q')) i k').get p') ((rowsCell ct.rows i k').get p')
    rw [h1]
    exact set_get2 u j k p' q' _ hl
  ·obtain ⟨h1,h2⟩:=upd_cell (u:=u) hc e
   refine key _ _ (bump (i :: k' :: q') ct.ver) ct.ver _ _ (bump_off hp1 _) (bump_off ht _) (h2 p') (.inl ?_)
   show (rowsCell (rowsSet ct.rows u (i :: k' :: q')) a b).get p'=(rowsCell ct.rows a b).get p'
   rw [h1]
/-- What an index asks for. -/
def hdI (b:Bool) (ver:Nat) (p:Path) (ct:Ct):Hd:=(Nat.beq (ct.ver p) ver&&b,true,true,[])
theorem hdI_ok (b:Bool) (ver:Nat) (p:Path):HdOk p (hdI b ver p):=by
 intro ct q u ht _
 unfold hdI updC
 simp only [bump_off ht]
def loadN (t:TypeId) (r ver:Nat) (p:Path) (m j k:Nat):Pr Row:=.rd r fun ct=>guardP (Nat.beq (ct.ver p) ver) (match p with
  | []=>match ct.rows[j]? with
   | some (_,cs)=>guardP (okTy P t&&Nat.ble (k+szA P t) cs.length) (.ret (isAg P t,mapI (fun i c=>viewC r ct.ver [j,k+i] c) 0 ((cs.drop k).take (szA P t))))
   | none=>.fail
  | p=>arrAt ct.rows p fun m' n' f=>guardP ((okTy P t&&(Nat.beq m m'&&(Nat.blt j n'&&Nat.ble (k+szA P t) m)))&&okShapes (zeroRow P t).2 (fun i=>f j (k+i)) (szA P t))
   (.ret (isAg P t,(List.range (szA P t)).map fun i=>viewC r ct.ver (p ++ [j,k+i]) (.tr true (shapeAt (zeroRow P t).2 (fun i=>f j (k+i)) i)))))
/-- One cell is loaded: nothing deeper is read. -/
def load1 (t:TypeId) (r ver:Nat) (p:Path) (m j k:Nat):Pr Row:=match p with
 | []=>.hdr r [j,k] (hdB P t r ver j k) (hdB_ok P t r ver j k) fun x=>guardP x.1 (guardP x.2.1 (.ret (isAg P t,x.2.2.2)))
 | a :: p=>.hdr r (a :: p ++ [j,k]) (hdE P t r ver (a :: p) m j k) (hdE_ok P t r ver (a :: p) m j k (List.cons_ne_nil a p)) fun x=>guardP x.1 (guardP x.2.1 (guardP x.2.2.1 (.ret (isAg P t,x.2.2.2))))
def loadP (t:TypeId):Pt→Pr Row
 | .pim m g=>guardP ((okTy P t&&Nat.ble (szA P t) m)&&okShapes (zeroRow P t).2 g (szA P t)) (.ret (isAg P t,(List.range (szA P t)).map fun i=>.tr false (shapeAt (zeroRow P t).2 g i)))
 | .ptr r ver p m j k=>bif Nat.beq (szA P t) 1 then load1 P t r ver p m j k else loadN P t r ver p m j k
/-- One cell is written. -/
def putCell (p:Path) (j k:Nat) (c:C) (rows:List Row):Option (List Row):=match p with
 | []=>match rows[j]? with
  | some (g,old)=>bif Nat.blt k old.length then some (rows.set j (g,old.set k c)) else none
  | none=>none
 | p=>match ownT c with
  | some t=>rowsPut rows t (p ++ [j,k])
  | none=>none
def plainC:C→Bool
 | .tr _ (.arr ..)=>false
 | .tr _ _=>true
 | _=>false
def mOk (p:Path) (m:Nat) (rows:List Row):Bool:=match p with
 | []=>true
 | p=>rowsOk rows p&&((rowsGet rows p).isArr&&Nat.beq m (rowsGet rows p).wd)
def putB (p:Path) (j k:Nat) (c:C) (rows:List Row):Bool:=match p with
 | []=>match rows[j]? with
  | some (_,old)=>Nat.blt k old.length
  | none=>false
 | p=>match ownT c with
  | some _=>rowsOk rows (p ++ [j,k])
  | none=>false
def putV (p:Path) (j k:Nat) (c:C) (rows:List Row):List Row:=match p with
 | []=>match rows[j]? with
  | some (g,old)=>rows.set j (g,old.set k c)
  | none=>rows
 | p=>match ownT c with
  | some t=>rowsSet rows t (p ++ [j,k])
  | none=>rows
def storeCs (r:Nat) (p:Path) (m j:Nat):Nat→Nat→List C→Pr Unit
 | _,_,[]=>.ret ()
 | ver,k,c :: cs=>.rd r fun ct=>guardP ((Nat.beq (ct.ver p) ver&&(Nat.blt k m&&mOk p m ct.rows))&&putB p j k c ct.rows) (.wr r ⟨bump (p ++ [j,k]) ct.ver,putV p j k c ct.rows⟩ (storeCs r p m j ver (k+1) cs))
def storeP (x:Pt) (cs:List C):Pr Unit :=
 match x with
 | .ptr r ver p m j k=>storeCs r p m j ver k cs
 | _=>.fail
/-! ### arithmetic -/
def intBin (op:BinOp) (k:IntKind) (a b:Int):Option T :=
 match op with
 | .add=>some (.int k (k.wrap (a+b)))
 | .sub=>some (.int k (k.wrap (a - b)))
 | .mul=>some (.int k (k.wrap (a * b)))
 | .and=>some (.int k (k.wrap (BitVec.ofInt k.bits a &&& BitVec.ofInt k.bits b).toNat))
 | .or=>some (.int k (k.wrap (BitVec.ofInt k.bits a ||| BitVec.ofInt k.bits b).toNat))
 | .lss=>some (.bool (decide (a < b)))
 | .leq=>some (.bool (decide (a≤b)))
 | .gtr=>some (.bool (decide (b < a)))
 | .geq=>some (.bool (decide (b≤a)))
 | .eql=>some (.bool (a == b))
 | .neq=>some (.bool (a != b))
 | _=>none
def strBin (op:BinOp) (a b:ByteArray):Option T :=
 match op with
 | .eql=>some (.bool (a.toList == b.toList))
 | .neq=>some (.bool !(a.toList == b.toList))
 | _=>none
/-- Equality by a type of numbers, bools and structs of these: the cells from 'off' on. -/
def eqAt:Nat→TypeId→List C→List C→Nat→Option Bool
 | 0,_,_,_,_=>none
 | d+1,t,cs,ds,off=>match P.underlying t with
  | some (.int _)=>match cs[off]?,ds[off]? with
   | some (.tr _ (.int k a)),some (.tr _ (.int k' b))=>bif decide (k=k') then some (a == b) else none
   | _,_=>none
  | some .bool=>match cs[off]?,ds[off]? with
   | some (.tr _ (.bool a)),some (.tr _ (.bool b))=>some (a == b)
   | _,_=>none
  | some (.struct fs)=>bif P.stoodInHeld t then none else
   fs.toList.foldr (fun f r => bif f.name != "_" && (okTy P f.type && Nat.ble (f.offset + szA P f.type) (szOf P t)) then match eqAt d f.type cs ds (off + f.offset), r with
    | some x,some y=>some (bif x then y else false)
    | _,_=>none
    else none) (some true)
  | _=>none
def eqP (t:TypeId) (x y:Row):Option Bool :=
 match x,y with
 | (true,cs),(true,ds)=>bif P.eqGuardType P.depth t then none else match P.underlying t with
  | some (.struct _)=>bif Nat.beq cs.length (szOf P t)&&Nat.beq ds.length (szOf P t) then eqAt P 20 t cs ds 0 else none
  | _=>none
 | (false,[.tr _ (.bool a)]),(false,[.tr _ (.bool b)])=>match P.underlying t with
  | some .bool=>some (a == b)
  | _=>none
 | _,_=>none
def binP (op:BinOp) (t:TypeId) (x y:Row):Pr T :=
 match x,y with
 | (false,[.tr _ (.int k a)]),(false,[.tr _ (.int k' b)])=>bif decide (k=k') then
   match op with
   | .quo=>guardP (!(b == 0)) (.ret (.int k (k.wrap (a.tdiv b))))
   | .rem=>guardP (!(b == 0)) (.ret (.int k (a.tmod b)))
   | op=>match intBin op k a b with
    | some t=>.ret t
    | none=>.fail
  else .fail
 | (false,[.tr _ (.str a)]),(false,[.tr _ (.str b)])=>match strBin op a b with
  | some t=>.ret t
  | none=>.fail
 | x,y=>match op,eqP P t x y with
  | .eql,some b=>.ret (.bool b)
  | .neq,some b=>.ret (.bool !b)
  | _,_=>.fail
/-! ### the operations -/
def lenC (d:Option TypeDesc) (c:C):Option Nat:=match d,c with
 | some (.slice _),.tr _ (.arr _ n _)=>some n
 | some .string,.tr _ (.str s)=>some s.size
 | some (.slice _),.ref _ _ _ _ _ n=>some n
 | _,_=>none
def fieldPt (off:Nat):Pt→Pt
 | .ptr r ver p m j k=>.ptr r ver p m j (k+off)
 | .pim m g=>.pim (m - off) fun i=>g (off+i)
/-- How many bytes a slice may take. -/
def lim:Nat:=70368744177664
/-- A scalar cell's part of an appended row. -/
def appF (n:Nat) (f f':Nat→Nat→T) (j k:Nat):T:=bif Nat.blt j n then f j k else f' (j - n) k
def appT (m n:Nat) (f:Nat→Nat→T) (n':Nat) (f':Nat→Nat→T):T:=.arr m (n+n') (appF n f f')
def plainF (f:Nat→Nat→T) (j k:Nat):T:=(f j k).plain
def intC:C→Option Int
 | .tr _ (.int .i64 i)=>some i
 | _=>none
def setCells:Nat→List C→List C→List C
 | _,[],cs=>cs
 | off,c :: l,cs=>setCells (off+1) l (cs.set off c)
def buildRow (t:TypeId):List (Nat × Row)→List C→Option (List C)
 | [],cs=>some cs
 | (i,r) :: l,cs=>match fieldOf P t i with
  | some (off,ft)=>bif !Nat.beq (szOf P ft) 0&&(Nat.beq r.2.length (szOf P ft)&&Nat.ble (off+szOf P ft) cs.length) then buildRow t l (setCells off r.2 cs) else none
  | none=>none
def takeParts:List (Nat × Operand)→Pr (List (Nat × Row))
 | []=>.ret []
 | (i,x) :: l=>(takeRow x).bind fun r=>(takeParts l).bind fun rs=>.ret ((i,r) :: rs)
/-- the rows of a slice's literal: parts in ascending order, all of them -/
def litRows (m:Nat):Nat→List (Nat × Row)→Option (List (List T))
 | _,[]=>some []
 | i,(j,r) :: l=>bif Nat.beq i j&&Nat.beq r.2.length m then match ownTs r.2,litRows m (i+1) l with
  | some ts,some rs=>some (ts :: rs)
  | _,_=>none
  else none
def rowsT (rs:List (List T)) (j k:Nat):T:=(rs.getD j []).getD k .hole
def zeroT (e:TypeId) (_j k:Nat):T:=match (zeroRow P e).2[k]? with
 | some (.tr true t)=>t
 | _=>.hole
def zeroOk (e:TypeId):Bool:=Nat.beq (zeroRow P e).2.length (szOf P e)&&!Nat.beq (szOf P e) 0&&(zeroRow P e).2.all fun c=>match c with | .tr true _=>true | _=>false
def flatTy (e:TypeId):Bool:=(zeroRow P e).2.all plainC
def ptsOf:List C→Option (List Pt)
 | []=>some []
 | .pt x :: l=>match ptsOf l with
  | some ps=>some (x :: ps)
  | none=>none
 | _=>none
def finC (c:C):Pr C:=match ownT c with
 | some t=>.ret (.tr true t)
 | none=>.fail
def finRow (row:Row):Pr Row:=(mapP finC row.2).bind fun cs=>.ret (row.1,cs)
/-- A cell's content is lent: the place keeps the header. -/
def lendC:C→Pr C
 | .ref r ver p m s n=>.rd r fun ct=>arrAt ct.rows p fun m' n' f=>guardP (Nat.beq (ct.ver p) ver&&(Nat.beq s 0&&(Nat.beq n n'&&Nat.beq m m'))) (.wr r ⟨bumpD p ct.ver,rowsSet ct.rows (.lent m n) p⟩ (.ret (.tr true (.arr m n f))))
 | c=>finC c
def giveC (home out:C):Pr Unit:=match home,out with
 | .ref r _ p m _ n,.tr true (.arr m' n' f)=>.rd r fun ct=>guardP (Nat.beq m m'&&(Nat.beq n n'&&rowsOk ct.rows p)) (.wr r ⟨bumpD p ct.ver,rowsSet ct.rows (.arr m' n' f) p⟩ (.ret ()))
 | .tr ..,_=>.ret ()
 | _,_=>.fail
def giveCs:List C→List C→Pr Unit
 | [],[]=>.ret ()
 | c :: cs,d :: ds=>(giveC c d).bind fun _=>giveCs cs ds
 | _,_=>.fail
/-- A variable's content is lent. -/
def lendB:C→Pr Row
 | .pt (.ptr r ver [] m 0 0)=>.rd r fun ct=>match ct.rows with
  | [row]=>guardP (Nat.beq (ct.ver []) ver&&Nat.beq m row.2.length) ((finRow row).bind fun row=>.wr r ⟨bumpD [] ct.ver,[]⟩ (.ret row))
  | _=>.fail
 | _=>.fail
def giveB (home:C) (out:Row):Pr Unit:=match home with
 | .pt (.ptr r _ [] m 0 0)=>.rd r fun ct=>guardP (Nat.beq m out.2.length) (.wr r ⟨bumpD [] ct.ver,[out]⟩ (.ret ()))
 | _=>.fail
/-- An operand at a parameter of type t: a constant nil gets its type. -/
def peekRowT (t:TypeId) (x:Operand):Pr Row:=(peekRow x).bind fun row=>.ret (row.1,typCs P [t] row.2)
def takesP:List Nat→List TypeId→List Operand→Pr (List Row)
 | _,_,[]=>.ret []
 | md,ts,x :: xs=>(bif Nat.beq (md.headD 0) 3 then (peekRowT P (ts.headD 0) x).bind fun row=>(takeRowC row).bind finRow else .ret (false,[])).bind fun r=>(takesP md.tail ts.tail xs).bind fun rs=>.ret (r :: rs)
/-- The arguments that are lent. -/
def lentAt:Nat→List Nat→List Operand→List (Nat × Nat × Operand)
 | _,_,[]=>[]
 | i,md,x :: xs=>bif Nat.beq (md.headD 0) 1 || Nat.beq (md.headD 0) 2 then (i,md.headD 0,x) :: lentAt (i+1) md.tail xs else lentAt (i+1) md.tail xs
def locOf:C→List (Nat × Path)
 | .ref r _ p _ _ _=>[(r,p)]
 | _=>[]
def okPair (x y:Nat × Path):Bool:=!Nat.beq x.1 y.1 || (lenLe x.2 y.2&&lenLe y.2 x.2)
def pairsOk:List (Nat × Path)→Bool
 | []=>true
 | x :: l=>l.all (okPair x)&&pairsOk l
/-- A row or a variable is lent: where it lies, and its content. -/
def lendP (t:Nat) (x:Operand):Pr (Row × Row) :=
 bif Nat.beq t 1 then (peekRow x).bind fun row=>guardP (!row.2.isEmpty&&pairsOk (row.2.flatMap locOf)) ((mapP lendC row.2).bind fun cs=>.ret (row,(row.1,cs)))
 else (peek1 x).bind fun c=>(lendB c).bind fun row=>.ret ((false,[c]),row)
def giveP (t:Nat) (home out:Row):Pr Unit :=
 bif Nat.beq t 1 then guardP (home.1 == out.1) (giveCs home.2 out.2) else match home with
  | (false,[c])=>giveB c out
  | _=>.fail
def restP:List Nat→List TypeId→List Operand→List Row→Row→Pr (List Arg)
 | md,ty,x :: xs,tr :: ts,lr=>(bif Nat.beq (md.headD 0) 3 then .ret (3,tr) else bif Nat.beq (md.headD 0) 1 || Nat.beq (md.headD 0) 2 then .ret (md.headD 0,lr) else (peekRowT P (ty.headD 0) x).bind fun row=>(resRow row).bind fun row=>.ret (0,row)).bind fun r =>
  (restP md.tail ty.tail xs ts lr).bind fun rs=>.ret (r :: rs)
 | _,_,_,_,_=>.ret []
def goP (dst:Option Tmp) (f:FuncId) (caps:List Pt) (md:List Nat) (ty:List TypeId) (xs:List Operand) (ts:List Row) (lr:Row) (k:List Row→Pr Unit):Pr Unit :=
 (restP P md ty xs ts lr).bind fun args=>(mapP resPt caps).bind fun caps=>.call f (args ++ caps.map fun c=>(0,(false,[.pt c]))) fun rows outs=>(k outs).bind fun _=>put dst rows
def callP (dst:Option Tmp) (f:C) (ty:List TypeId) (xs:List Operand):Pr Unit:=match f with
 | .fn f caps=>.ask f fun md=>(takesP P md ty xs).bind fun ts=>match lentAt 0 md xs with
  | []=>goP P dst f caps md ty xs ts (false,[]) fun _=>.ret ()
  | [(i,t,x)]=>(lendP t x).bind fun hl=>goP P dst f caps md ty xs ts hl.2 fun outs=>giveP t hl.1 (outs.getD i (false,[]))
  | _=>.fail
 | _=>.fail
def lenP (t:TypeId) (dst:Option Tmp) (c:C):Pr Unit:=match lenC (P.underlying t) c with
 | some n=>putT dst (.int .i64 n)
 | none=>.fail
def appendFlat (e:TypeId) (dst:Option Tmp) (m n:Nat) (f:Nat→Nat→T) (m' n':Nat) (f':Nat→Nat→T):Pr Unit :=
 guardP ((Nat.beq m (szOf P e) || Nat.beq m 0)&&((Nat.beq m' (szOf P e) || Nat.beq n' 0)&&(zeroOk P e&&(Nat.ble ((n+n') * bytesOf P e) lim&&Nat.ble (n+n') lim))))
  (putT dst (appT (szOf P e) n f n' (plainF f')))
def appendOwn (e:TypeId) (dst:Option Tmp) (m n:Nat) (f:Nat→Nat→T) (m' n':Nat) (f':Nat→Nat→T):Pr Unit :=
 guardP ((Nat.beq m (szOf P e) || Nat.beq m 0)&&((Nat.beq m' (szOf P e) || Nat.beq n' 0)&&(zeroOk P e&&(Nat.ble ((n+n') * bytesOf P e) lim&&Nat.ble (n+n') lim))))
  (putT dst (appT (szOf P e) n f n' f'))
/-- Rows s, .., s + n - 1 without their arrays. -/
def movF (s n:Nat) (f:Nat→Nat→T) (j k:Nat):T:=bif Nat.ble s j&&Nat.blt j (s+n) then (f j k).plain else f j k
def shF (s:Nat) (f:Nat→Nat→T):Nat→Nat→T:=bif Nat.beq s 0 then f else fun j k=>f (s+j) k
/-- Rows are taken away from where they lie, their arrays with them. -/
def moveC:C→Pr C
 | .ref r ver p m s n=>bif Nat.beq (r % 4) 2 then .fail else .rd r fun ct=>arrAt ct.rows p fun m' n' f=>guardP (Nat.beq (ct.ver p) ver&&(Nat.ble (s+n) n'&&Nat.beq m m')) (.mv r p (.arr m n' (movF s n f)) (.ret (.tr true (.arr m n (shF s f)))))
 | _=>.fail
def appendP (e:TypeId) (dst:Option Tmp) (x y:Operand):Pr Unit:=(takeRow x).bind fun xr=>match xr with
 | (false,[.tr true (.arr m n f)])=>(peek1 y).bind fun yc=>match yc with
  | .tr _ (.arr m' n' f')=>appendFlat P e dst m n f m' n' f'
  | .ref r ver p m' s n'=>bif flatTy P e then (resC (.ref r ver p m' s n')).bind fun c=>match c with
    | .tr _ (.arr m' n' f')=>appendFlat P e dst m n f m' n' f'
    | _=>.fail
   else (moveC (.ref r ver p m' s n')).bind fun c=>match c with
    | .tr true (.arr m' n' f')=>appendOwn P e dst m n f m' n' f'
    | _=>.fail
  | _=>.fail
 | _=>.fail
/-- Rows s, .., s + c - 1 are others. -/
def fillT (m s c:Nat) (g:Nat→Nat→T) (f:Nat→Nat→T) (j k:Nat):T:=bif Nat.blt k m&&(Nat.ble s j&&Nat.blt j (s+c)) then g j k else f j k
def fillP (r ver:Nat) (p:Path) (m s c:Nat) (g:Nat→Nat→T) (k:Pr Unit):Pr Unit :=
 .rd r fun ct=>arrAt ct.rows p fun m0 n0 f=>guardP ((Nat.beq (ct.ver p) ver&&Nat.beq m0 m)&&Nat.ble (s+c) n0) (.wr r ⟨bumpD p ct.ver,rowsSet ct.rows (.arr m0 n0 (fillT m0 s c g f)) p⟩ k)
def sliceC (d:Option TypeDesc) (lo hi:Option Int) (c:C):Option (Bool × C):=match d,c with
 | some (.slice e),.tr false (.arr m n f) =>
  some (isSz P m e&&(decide (0≤lo.getD 0)&&(decide (lo.getD 0≤hi.getD n)&&decide (hi.getD n≤n))),.tr false (.arr m ((hi.getD n).toNat - (lo.getD 0).toNat) (cutT (lo.getD 0).toNat ((hi.getD n).toNat - (lo.getD 0).toNat) f)))
 | some (.slice e),.ref r ver p m s n =>
  some (isSz P m e&&(decide (0≤lo.getD 0)&&(decide (lo.getD 0≤hi.getD n)&&decide (hi.getD n≤n))),.ref r ver p m (s+(lo.getD 0).toNat) ((hi.getD n).toNat - (lo.getD 0).toNat))
 | some .string,.tr _ (.str s) =>
  some (decide (0≤lo.getD 0)&&(decide (lo.getD 0≤hi.getD s.size)&&decide (hi.getD s.size≤s.size)),.tr true (.str (s.extract (lo.getD 0).toNat (hi.getD s.size).toNat)))
 | _,_=>none
/-- Elements of one cell go over. -/
def copyC (e:TypeId) (dst:Option Tmp) (r ver:Nat) (p:Path) (m s n:Nat) (m' n':Nat) (f':Nat→Nat→T):Pr Unit :=
 guardP ((Nat.beq m 1&&isSz P 1 e)&&(Nat.beq m' 1 || Nat.beq n' 0)) (.br (Nat.ble n' n) (fillP r ver p 1 s n' (fun j _=>(f' (j - s) 0).plain) (putT dst (.int .i64 n'))) (fillP r ver p 1 s n (fun j _=>(f' (j - s) 0).plain) (putT dst (.int .i64 n))))
def copyP (e:TypeId) (dst:Option Tmp) (x y:Operand):Pr Unit:=(peek1 x).bind fun xc=>match xc with
 | .ref r ver p m s n=>(peek1 y).bind fun yc=>match yc with
  | .tr _ (.arr m' n' f')=>copyC P e dst r ver p m s n m' n' f'
  | .ref r' ver' p' m' s' n'=>(resC (.ref r' ver' p' m' s' n')).bind fun c=>match c with
   | .tr _ (.arr m' n' f')=>copyC P e dst r ver p m s n m' n' f'
   | _=>.fail
  | _=>.fail
 | _=>.fail
def clearP (e:TypeId) (x:Operand):Pr Unit:=(peek1 x).bind fun xc=>match xc with
 | .ref r ver p m s n=>guardP (isSz P m e&&zeroOk P e) (fillP r ver p m s n (fun _ k=>zeroT P e 0 k) (.ret ()))
 | _=>.fail
def optInt:Option Operand→Pr (Option Int)
 | none=>.ret none
 | some x=>(peek1 x).bind fun c=>match intC c with
  | some i=>.ret (some i)
  | none=>.fail
def isU8 (e:TypeId):Bool:=match P.underlying e with | some (.int .u8)=>true | _=>false
def allU8 (n:Nat) (f:Nat→Nat→T):Bool:=(List.range n).all fun j=>(f j 0).isI .u8
def numsOf (n:Nat) (f:Nat→Nat→T):List Int:=(List.range n).map fun j=>(f j 0).toI
def opP (o:Oper):Pr Unit :=
 match o.op with
 | .move x=>(peekT x).bind (put o.dst)
 | .assign x=>(takeRow x).bind fun row=>put o.dst [(row.1,typCs P [o.type] row.2)]
 | .pick c a b=>(peek1 c).bind fun c=>match c with
  | .tr _ (.bool p)=>.br p ((peek a).bind (put o.dst)) ((peek b).bind (put o.dst))
  | _=>.fail
 | .alloc e=>match o.dst with
  | some d=>guardP (Nat.beq (zeroRow P e).2.length (szOf P e)&&!Nat.beq (szOf P e) 0) (.rd (box d) fun ct=>.wr (box d) ⟨bump [] ct.ver,[zeroRow P e]⟩ (put1 o.dst (.pt (.ptr (box d) (ct.ver []+1) [] (szOf P e) 0 0))))
  | none=>.fail
 | .box e x=>match o.dst with
  | some d=>(takeRow x).bind fun row=>guardP (Nat.beq row.2.length (szOf P e)&&!Nat.beq (szOf P e) 0) (.rd (box d) fun ct=>.wr (box d) ⟨bump [] ct.ver,[row]⟩ (put1 o.dst (.pt (.ptr (box d) (ct.ver []+1) [] (szOf P e) 0 0))))
  | none=>.fail
 | .load t a=>(peek1 a).bind fun a=>match a with
  | .pt a=>(loadP P t a).bind fun row=>put o.dst [row]
  | _=>.fail
 | .store t a x=>(peek1 a).bind fun a=>match a with
  | .pt a=>(takeRowBy (tkFor a) x).bind fun row=>guardP (Nat.beq row.2.length (szOf P t)&&!Nat.beq (szOf P t) 0) ((storeP a row.2).bind fun _=>put o.dst [(false,[])])
  | _=>.fail
 | .nilCheck x=>(peek1 x).bind fun c=>match c with
  | .pt a=>put1 o.dst (.pt a)
  | .fn f caps=>put1 o.dst (.fn f caps)
  | _=>.fail
 | .fieldAddr t x k=>(peek1 x).bind fun a=>match fieldOf P t k,a with
  | some (off,ft),.pt a=>bif Nat.beq (szOf P ft) 0 then .fail else put1 o.dst (.pt (fieldPt off a))
  | _,_=>.fail
 | .field t x k=>(peekRow x).bind fun row=>match fieldOf P t k,row with
  | some (off,ft),(true,cs)=>guardP (okTy P ft&&Nat.ble (off+szA P ft) cs.length) (put o.dst [(isAg P ft,(cs.drop off).take (szA P ft))])
  | _,_=>.fail
 | .indexAddr t x i=>(peek1 x).bind fun a=>(peek1 i).bind fun i=>match intC i,elemTy P t with
  | some i,some e=>match a with
   | .tr false (.arr m n f)=>guardP (decide (0≤i)&&(Nat.blt i.toNat n&&isSz P m e)) (put1 o.dst (.pt (.pim m (f i.toNat))))
   | .ref r ver p m s n=>.hdr r p (hdI (decide (0≤i)&&(Nat.blt i.toNat n&&isSz P m e)) ver p) (hdI_ok _ ver p) fun x=>guardP x.1 (put1 o.dst (.pt (.ptr r ver p m (s+i.toNat) 0)))
   | _=>.fail
  | _,_=>.fail
 | .index t x i=>(peek1 x).bind fun a=>(peek1 i).bind fun i=>match intC i,P.underlying t,a with
  | some i,some .string,.tr _ (.str s)=>guardP (decide (0≤i)&&Nat.blt i.toNat s.size) (putT o.dst (.int .u8 (s.data.getD i.toNat 0).toNat))
  | _,_,_=>.fail
 | .binOp op t x y _=>(peekRow x).bind fun x=>(peekRow y).bind fun y=>(binP P op t x y).bind (putT o.dst)
 | .unOp .not _ x=>(peek1 x).bind fun x=>match x with
  | .tr _ (.bool b)=>putT o.dst (.bool !b)
  | _=>.fail
 | .convert s d x=>(peek1 x).bind fun x=>match P.underlying s,P.underlying d,x with
  | some (.int _),some (.int k),.tr _ (.int _ n)=>putT o.dst (.int k (k.wrap n))
  | some (.slice e),some .string,.tr _ (.arr m n f)=>guardP (isU8 P e&&(Nat.beq m 1&&allU8 n f)) (putT o.dst (.str (strOfNums (numsOf n f))))
  | some (.slice e),some .string,.ref r ver p m s n=>.rd r fun ct=>arrAt ct.rows p fun m' n' f=>guardP (Nat.beq (ct.ver p) ver&&(Nat.beq m m'&&(Nat.ble (s+n) n'&&(isU8 P e&&(Nat.beq m 1&&allU8 n (cutT s n f)))))) (putT o.dst (.str (strOfNums (numsOf n (cutT s n f)))))
  | _,_,_=>.fail
 | .extract x i=>(peek x).bind fun rows=>match rows with
  | r :: r' :: rs=>match (r :: r' :: rs)[i]? with
   | some r=>put o.dst [r]
   | none=>.fail
  | _=>.fail
 | .makeFunc (.func f) first caps=>bif Nat.beq first.size 0 then (mapP peek1 caps.toList).bind fun cs=>match ptsOf cs with
   | some caps=>put1 o.dst (.fn f caps)
   | none=>.fail
  else .fail
 | .makeSlice t l c=>(peek1 l).bind fun l=>(peek1 c).bind fun c=>match intC l,intC c,elemTy P t with
  | some l,some c,some e=>guardP (decide (0≤l)&&(decide (l≤c)&&(Nat.ble (c.toNat * bytesOf P e) lim&&Nat.ble c.toNat lim))) (bif zeroOk P e then putT o.dst (.arr (szOf P e) l.toNat (cutT 0 l.toNat (zeroT P e))) else .fail)
  | _,_,_=>.fail
 | .slice t x lo hi none=>(peek1 x).bind fun x=>(optInt lo).bind fun lo=>(optInt hi).bind fun hi=>match sliceC P (P.underlying t) lo hi x with
  | some (g,c)=>guardP g (put1 o.dst c)
  | none=>.fail
 | .build t ps=>match P.underlying t with
  | some (.struct fs)=>bif fs.toList.all (fun f=>okTy P f.type)&&((zeroRow P t).1&&!Nat.beq (zeroRow P t).2.length 0) then (takeParts ps.toList).bind fun ps=>match buildRow P t ps (zeroRow P t).2 with
    | some cs=>put o.dst [(true,cs)]
    | none=>.fail
   else .fail
  | _=>.fail
 | .buildSlice t len ps=>match elemTy P t with
  | some e=>bif Nat.ble (len * szOf P e) 16777216&&(Nat.beq ps.size len&&zeroOk P e) then (takeParts ps.toList).bind fun ps=>match litRows (szOf P e) 0 ps with
    | some rs=>putT o.dst (.arr (szOf P e) len (rowsT rs))
    | none=>.fail
   else .fail
  | none=>.fail
 | .call c=>match c.callee with
  | .builtin .len=>match c.args.toList,c.argTypes.toList with
   | [x],[t]=>(peek1 x).bind (lenP P t o.dst)
   | _,_=>.fail
  | .builtin .min=>match c.args.toList with
   | [x,y]=>(peek1 x).bind fun x=>(peek1 y).bind fun y=>match x,y with
    | .tr _ (.int k a),.tr _ (.int k' b)=>guardP (decide (k=k')) (putT o.dst (.int k (if b < a then b else a)))
    | _,_=>.fail
   | _=>.fail
  | .builtin .append=>match c.args.toList,c.argTypes.toList with
   | [x,y],[t,t']=>bif Nat.beq t t' then match elemTy P t with
     | some e=>appendP P e o.dst x y
     | none=>.fail
    else .fail
   | _,_=>.fail
  | .builtin .copy=>match c.args.toList,c.argTypes.toList with
   | [x,y],[t,_]=>match elemTy P t with
    | some e=>copyP P e o.dst x y
    | none=>.fail
   | _,_=>.fail
  | .builtin .clear=>match o.dst,c.args.toList,c.argTypes.toList with
   | none,[x],[t]=>match elemTy P t with
    | some e=>clearP P e x
    | none=>.fail
   | _,_,_=>.fail
  | .value f=>(peek1 f).bind fun f=>callP P o.dst f c.argTypes.toList c.args.toList
  | _=>.fail
 | _=>.fail
end
/-! ### regions -/
def undefRows:List Row:=[(false,[])]
def operP (P:Program) (ops:Array Oper) (o:Oper):Pr Unit:=match o.guard with
 | none=>opP P o
 | some (g,want)=>match (ops[g]?).bind (·.dst) with
  | some t=>.rd (slot t) fun ct=>match ct.rows with
   | [(false,[.tr _ (.bool b)])]=>.br (bif want then b else !b) (opP P o) (put o.dst undefRows)
   | [(false,[])]=>put o.dst undefRows
   | _=>.fail
  | none=>.fail
/-- May these two come in either order? -/
def accOk:Acc→Acc→Bool
 | .rd,.rd=>true
 | .rd,.hd _=>true
 | .hd _,.rd=>true
 | .hd _,.hd _=>true
 | .hd p,.up q=>!touch q p
 | .up q,.hd p=>!touch q p
 | .tp,.rd=>true
 | .rd,.tp=>true
 | .tp,.tp=>true
 | .tp,.hd _=>true
 | .hd _,.tp=>true
 | .tp,.dn _=>true
 | .dn _,.tp=>true
 | _,_=>false
def disjL (L L':Log):Bool:=L.all fun x=>L'.all fun y=>!Nat.beq x.1 y.1 || accOk x.2 y.2
/-- Bit j of number i: operation j comes before operation i, whatever order is drawn. -/
def edgeBits (acc:List Nat) (es:List Edge):Nat:=es.foldr (fun e s=>bif Region.binds .any e then (s ||| 2 ^ e.on) ||| acc.getD e.on 0 else s) 0
def befL:List Oper→List Nat→List Nat
 | [],acc=>acc
 | o :: l,acc=>befL l (acc ++ [edgeBits acc o.after.toList])
def okLogs (bef:List Nat):List (Nat × Log)→Bool
 | []=>true
 | (j,L) :: rest=>(rest.all fun x=>Nat.testBit (bef.getD j 0) x.1 || disjL x.2 L)&&okLogs bef rest
def okEdges:List Oper→Nat→Bool
 | [],_=>true
 | o :: l,i=>(o.after.toList.all fun e=>!Region.binds .any e || Nat.blt e.on i)&&okEdges l (i+1)
def prepOne (nt:Nat) (σ:St) (o:Oper):St:=match o.dst with
 | some d=>bif Nat.blt d nt then match o.op with
   | .alloc _=>(σ.add (slot d)).add (box d)
   | .box ..=>(σ.add (slot d)).add (box d)
   | _=>σ.add (slot d)
  else σ
 | none=>σ
def prep (nt:Nat):List Oper→St→St
 | [],σ=>σ
 | o :: l,σ=>prep nt l (prepOne nt σ o)
def fixPt (σ:St):Pt→C
 | .ptr r ver p m j k=>bif Nat.beq ((σ.get r).ver p) ver then .pt (.ptr r 0 p m j k) else .dead
 | .pim m g=>.pt (.pim m g)
def fixPts (σ:St):List Pt→Option (List Pt)
 | []=>some []
 | x :: l=>match fixPt σ x,fixPts σ l with
  | .pt y,some l=>some (y :: l)
  | _,_=>none
def fixC (σ:St):C→C
 | .tr false (.int k n)=>.tr true (.int k n)
 | .tr false (.bool b)=>.tr true (.bool b)
 | .tr false (.str s)=>.tr true (.str s)
 | .ref r ver p m s n=>bif Nat.beq ((σ.get r).ver p) ver then .ref r 0 p m s n else .dead
 | .pt x=>fixPt σ x
 | .fn f caps=>match fixPts σ caps with
  | some caps=>.fn f caps
  | none=>.dead
 | c=>c
def fixRows (σ:St) (rows:List Row):List Row:=rows.map fun row=>(row.1,row.2.map (fixC σ))
def memR (r:Nat):List Nat→Bool
 | []=>false
 | x :: l=>bif Nat.beq x r then true else memR r l
def St.del (σ:St) (r:Nat):St:=σ.filter fun x=>!Nat.beq x.1 r
def normL (σ:St):List Nat→St→St
 | [],_=>[]
 | r :: keep,τ=>bif τ.has r then (r,⟨z0,fixRows σ (τ.get r).rows⟩) :: normL σ keep (τ.del r) else normL σ keep τ
def norm (keep:List Nat) (σ:St):St:=normL σ keep σ
inductive Ex where
 | normal | exit (id:Nat) | ret
section
variable {R:Type} (P:Program) (φ:Sems) (keep:List Nat) (nt:Nat) (z:R)
/-- A guard is decided once. -/
def splitK (t:Tmp) (σ:St) (K:St→R):R:=match σ.get (slot t) with
 | ⟨ver,[(false,[.tr o (.bool b)])]⟩=>bif b then K (σ.set (slot t) ⟨ver,[(false,[.tr o (.bool true)])]⟩) else K (σ.set (slot t) ⟨ver,[(false,[.tr o (.bool false)])]⟩)
 | _=>K σ
def guardK (ops:Array Oper) (o:Oper) (σ:St) (K:St→R):R:=match o.guard with
 | none=>K σ
 | some (g,_)=>match (ops[g]?).bind (·.dst) with
  | some t=>splitK t σ K
  | none=>K σ
def opsK (ops:Array Oper):List Oper→Nat→St→List (Nat × Log)→(St→List (Nat × Log)→R)→R
 | [],_,σ,Ls,K=>K σ Ls
 | o :: l,i,σ,Ls,K=>guardK ops o σ fun σ=>(operP P ops o).evalK φ z σ [] fun _ σ L=>opsK ops l (i+1) σ ((i,L) :: Ls) K
def regionK (ops:Array Oper) (draw:Bool) (σ:St) (K:St→R):R :=
 opsK P φ z ops ops.toList 0 (prep nt ops.toList σ) [] fun σ Ls=>bif !draw || (okEdges ops.toList 0&&okLogs (befL ops.toList []) Ls) then K (norm keep σ) else z
end
/-- A condition's variable is dropped, but where nothing is done under it. -/
def dropC (c:Code) (t:Nat) (o:Bool) (σ:St):St:=match c with
 | .skip=>σ.set (slot t) ⟨(σ.get (slot t)).ver,[(false,[.tr o (.bool true)])]⟩
 | _=>σ.set (slot t) ⟨(σ.get (slot t)).ver,[]⟩
section
variable {R:Type} (P:Program) (φ:Sems) (kp:Nat→List Nat) (nt:Nat) (z:R)
def loopK (body:St→(Ex→St→R)→R):Nat→St→(Ex→St→R)→R
 | 0,_,_=>z
 | n+1,σ,K=>body σ fun e σ=>match e with
  | .normal=>loopK body n σ K
  | e=>K e σ
def exec (n:Nat):Code→St→(Ex→St→R)→R
 | .skip,σ,K=>K .normal σ
 | .ret,σ,K=>K .ret σ
 | .exit i,σ,K=>K (.exit i) σ
 | .seq a b,σ,K=>exec n a σ fun e σ=>match e with
  | .normal=>exec n b σ K
  | e=>K e σ
 | .block i c,σ,K=>exec n c σ fun e σ=>match e with
  | .exit j=>bif Nat.beq j i then K .normal σ else K (.exit j) σ
  | e=>K e σ
 | .cond c a b,σ,K=>match c with
  | .tmp t=>match (σ.get (slot t)).rows with
   | [(false,[.tr o (.bool p)])]=>bif p then exec n a (dropC a t o σ) K else exec n b (σ.set (slot t) ⟨(σ.get (slot t)).ver,[]⟩) K
   | _=>z
  | .const (.bool p)=>bif p then exec n a σ K else exec n b σ K
  | _=>z
 | .loop c,σ,K=>loopK z (exec n c) n σ K
 | .region i ops draw,σ,K=>regionK P φ (kp i) nt z ops draw σ (K .normal)
 | _,_,_=>z
end
/-! ### functions -/
def bodyOf (fn:Func):Code:=match fn.body with | some c=>c | none=>.skip
/-- What is kept behind each region (what is not listed: nothing). -/
def kpOf:List (Nat × List Nat)→Nat→List Nat
 | [],_=>[]
 | (j,l) :: kp,i=>bif Nat.beq j i then l else kpOf kp i
def argRow (nt i:Nat) (x:Arg):Row :=
 bif Nat.beq x.1 1 then (x.2.1,mapI (fun k c=>viewC (ext i) z0 [0,k] c) 0 x.2.2)
 else bif Nat.beq x.1 2 then (false,[.pt (.ptr (box (nt+i)) 0 [] x.2.2.length 0 0)])
 else x.2
def argRoot (nt i:Nat) (x:Arg) (σ:St):St :=
 bif Nat.beq x.1 1 then (ext i,⟨z0,[x.2]⟩) :: σ else bif Nat.beq x.1 2 then (box (nt+i),⟨z0,[x.2]⟩) :: σ else σ
def initA (nt:Nat):Nat→List Arg→St
 | _,[]=>[]
 | i,x :: l=>(slot i,⟨z0,[argRow nt i x]⟩) :: argRoot nt i x (initA nt (i+1) l)
def resultP (P:Program):ResultVar→Pr Row
 | .tmp t=>(peekRow (.tmp t)).bind fun row=>(takeRowC row).bind fun row=>(mapP finC row.2).bind fun cs=>.ret (row.1,cs)
 | .cell t ty=>(peek1 (.tmp t)).bind fun a=>match a with
  | .pt a=>(loadP P ty a).bind fun row=>(takeRowC row).bind fun row=>(mapP finC row.2).bind fun cs=>.ret (row.1,cs)
  | _=>.fail
/-- What the lent arguments hold behind the call. -/
def outP (nt i t:Nat):Pr Row :=
 bif Nat.beq t 1 then .rd (ext i) fun ct=>match ct.rows with
  | [row]=>finRow row
  | _=>.fail
 else bif Nat.beq t 2 then .rd (box (nt+i)) fun ct=>match ct.rows with
  | [row]=>finRow row
  | _=>.fail
 else .ret (false,[])
def outsP (nt:Nat):Nat→List Nat→Pr (List Row)
 | _,[]=>.ret []
 | i,t :: l=>(outP nt i t).bind fun r=>(outsP nt (i+1) l).bind fun rs=>.ret (r :: rs)
def resultsK {R:Type} (P:Program) (φ:Sems) (z:R) (fn:Func) (ts:List Nat) (σ:St) (K:List Row→List Row→R):R :=
 ((mapP (resultP P) fn.results.toList).bind fun rows=>(outsP fn.ntmps 0 ts).bind fun outs=>.ret (rows,outs)).evalK φ z σ [] fun r _ _=>K r.1 r.2
/-- One call, the calls in it by 'φ', with at most n rounds of each loop: the results, and what is lent behind it. -/
def body (P:Program) (φ:Sems) (kp:List (Nat × List Nat)) (n:Nat) (fn:Func) (args:List Arg):Option (List Row × List Row) :=
 bif Nat.beq args.length (fn.params.size+fn.nfree)&&Nat.ble args.length fn.ntmps then
  exec P φ (kpOf kp) fn.ntmps none n (bodyOf fn) (initA fn.ntmps 0 args) fun e σ=>match e with
   | .exit _=>none
   | _=>resultsK P φ none fn (args.map (·.1)) σ fun rows outs=>some (rows,outs)
 else none
end Go.Mach
namespace Go.Mach
abbrev Gh:=Path→Option (Addr × Nat)
/-- A cell whose memory nobody writes. -/
def RelIm (w:World) (N:Nat→Prop):T→Value→Prop
 | .int k n,v=>v=.int k n
 | .bool b,v=>v=.bool b
 | .str s,v=>v=.string s
 | .hole,v=>v.oneCell'=true
 | .lent _ _,v=>v.oneCell'=true
 | .arr m n f,v=>∃ A cap,v=.slice A n cap∧n≤cap∧(0 < n→∃ b off,A=some ⟨b,off,none⟩∧N b ∧
   ∀ j,j < n→∀ k,k < m→∃ u,w.cell? ⟨b,off+(j * m+k),none⟩=some u∧RelIm w N (f j k) u)
/-- A cell whose memory the root owns that it lies in: 'g' tells the arrays' places. -/
def RelOwn (w:World):T→Gh→Value→Prop
 | .int k n,_,v=>v=.int k n
 | .bool b,_,v=>v=.bool b
 | .str s,_,v=>v=.string s
 | .hole,_,v=>v.oneCell'=true
 | .lent m n,g,v=>(g []=none∧n=0∧v=.slice none 0 0)∨∃ b off cap,g []=some (⟨b,off,none⟩,cap)∧v=.slice (some ⟨b,off,none⟩) n cap∧(n≤cap∧0 < m)
 | .arr m n f,g,v=>(g []=none∧n=0∧v=.slice none 0 0) ∨
   ∃ b off cap cs e,g []=some (⟨b,off,none⟩,cap)∧v=.slice (some ⟨b,off,none⟩) n cap∧(n≤cap∧0 < m)∧w.heap[b]?=some (.cells cs e (0,0))∧off+cap * m≤cs.size ∧
    ∀ j,j < n→∀ k,k < m→∃ u,cs[off+(j * m+k)]?=some u∧RelOwn w (f j k) (fun q=>g (j :: k :: q)) u
structure Env where
 w0:World
 D:Nat→Prop
 nt:Nat
 x:Nat→Value
 xb:Nat→Option (Addr × Nat)
def Env.N (E:Env) (b:Nat):Prop:=b < E.w0.heap.size∧¬ E.D b
abbrev GG:=Nat→Gh
def notPark (r:Nat):Prop:=r % 4≠3
def RelPt (E:Env) (G:GG) (V:Nat→Ver):Pt→Value→Prop
 | .ptr r ver p m j k,v=>∃ b o,v=.pointer (some ⟨b,o,none⟩)∧(notPark r∧(p=[]→r % 4=1))∧ver≤V r p∧(V r p=ver→∃ off cap,G r p=some (⟨b,off,none⟩,cap)∧o=off+(j * m+k))
 | .pim m g,v=>∃ b off,v=.pointer (some ⟨b,off,none⟩)∧∀ i,i < m→E.N b∧∃ u,E.w0.cell? ⟨b,off+i,none⟩=some u∧RelIm E.w0 E.N (g i) u
def RelC (E:Env) (G:GG) (V:Nat→Ver) (w:World) (g:Gh):C→Value→Prop
 | .tr true t,v=>RelOwn w t g v
 | .tr false t,v=>RelIm E.w0 E.N t v
 | .ref r ver p m s n,v=>∃ A cap,v=.slice A n cap∧n≤cap∧(notPark r∧p≠[])∧ver≤V r p∧(V r p=ver→(G r p=none∧n=0∧s=0∧A=none∧cap=0) ∨
   ∃ b off c,G r p=some (⟨b,off,none⟩,c)∧(s=0→A=some ⟨b,off,none⟩∧cap=c)∧(0 < n→A=some ⟨b,off+s * m,none⟩))
 | .pt x,v=>RelPt E G V x v
 | .fn f caps,v=>∃ vs:Array Value,v=.func (.func f) #[] vs∧vs.size=caps.length∧∀ (i:Nat) x,caps[i]?=some x→∃ u,vs[i]?=some u∧RelPt E G V x u
 | .dead,v=>v.oneCell'=true
def RelCs (E:Env) (G:GG) (V:Nat→Ver) (w:World) (g:Nat→Gh) (cs:List C) (vs:Array Value):Prop :=
 vs.size=cs.length∧∀ (k:Nat) c,cs[k]?=some c→∃ u,vs[k]?=some u∧RelC E G V w (g k) c u
def RelRow (E:Env) (G:GG) (V:Nat→Ver) (w:World) (g:Nat→Gh):Row→Value→Prop
 | (false,[]),v=>v=undef
 | (false,[c]),v=>RelC E G V w (g 0) c v
 | (false,_ :: _ :: _),_=>False
 | (true,cs),v=>∃ vs,v=.agg vs∧RelCs E G V w g cs vs
def RelRows (E:Env) (G:GG) (V:Nat→Ver) (w:World) (g:Gh):List Row→Value→Prop
 | [],_=>True
 | [row],v=>RelRow E G V w (fun k q=>g (0 :: k :: q)) row v
 | r :: r' :: rs,v=>∃ vs:Array Value,v=.tuple vs∧vs.size=(r :: r' :: rs).length∧∀ (i:Nat) row,(r :: r' :: rs)[i]?=some row→∃ u,vs[i]?=some u∧RelRow E G V w (fun k q=>g (i :: k :: q)) row u
def noG:Gh:=fun _=>none
/-- The state speaks truly of the frame and the world. -/
structure Rel (E:Env) (σ:St) (a:Act) (w:World) (G:GG):Prop where
 nd:(σ.map (·.1)).Nodup
 inj:∀ r p r' p' ad c ad' c',G r p=some (ad,c)→G r' p'=some (ad',c')→ad.block=ad'.block→r=r'∧p=p'
 rng:∀ r p ad c,G r p=some (ad,c)→(E.w0.heap.size≤ad.block∨E.D ad.block)∧ad.block < w.heap.size
 os:w.os=E.w0.os
 tape:w.tape=E.w0.tape
 output:w.output=E.w0.output
 size:E.w0.heap.size≤w.heap.size
 kept:∀ b,E.N b→w.heap[b]?=E.w0.heap[b]?
 slots:∀ t,RelRows E G (fun r=>(σ.get r).ver) w (G (slot t)) (σ.get (slot t)).rows (a.tmps.getD t undef)
 boxes:∀ t,(σ.get (box t)).rows=[]∨∃ row b cs e,(σ.get (box t)).rows=[row]∧G (box t) []=some (⟨b,0,none⟩,1)∧w.heap[b]?=some (.cells cs e (0,0)) ∧
  RelCs E G (fun r=>(σ.get r).ver) w (fun k q=>G (box t) (0 :: k :: q)) row.2 cs
 exts:∀ t,RelRows E G (fun r=>(σ.get r).ver) w (G (ext t)) (σ.get (ext t)).rows (E.x t)
 xbox:∀ t,E.nt≤t→G (box t) []=E.xb t
 defers:a.defers=[]
 tm:a.tmps.size=E.nt
 here:∀ t,σ.has (slot t)=true→t < E.nt
theorem cutT_in {s n:Nat} {f:Nat→Nat→T} {j:Nat} (k:Nat) (h:j < n):cutT s n f j k=f (s+j) k:=by
 have:Nat.blt j n=true:=by rw [Nat.blt_eq];exact h
 simp only [cutT,this,cond_true]
theorem bump_nil (v:Ver) (p:Path):bump [] v p=v p+1:=by
 unfold bump touch
 rfl
theorem meet_pre:∀ {q p:Path},q <+: p→meet q p=true
 | [],_,_=>by simp [meet]
 | [_],[],h=>by simp at h
 | [_],_ :: _,_=>by simp [meet]
 | _ :: _ :: _,[],h=>by simp at h
 | _ :: _ :: _,[_],h=>by simp at h
 | a :: c :: q,b :: d :: p,h=>by
  rw [List.cons_prefix_cons,List.cons_prefix_cons] at h
  obtain ⟨rfl,rfl,h⟩:=h
  simp only [meet,Nat.beq_refl,Bool.true_and]
  exact meet_pre h
theorem touch_pre {q p:Path} (h:q <+: p):touch q p=true:=by
 match q,p,h with
 | [],_,_=>unfold touch;rfl
 | [_],[],h=>simp at h
 | [_],_ :: _,_=>unfold touch;rfl
 | _ :: _ :: _,[],h=>simp at h
 | _ :: _ :: _,[_],h=>simp at h
 | i :: k :: q,i' :: k' :: p,h =>
  rw [List.cons_prefix_cons,List.cons_prefix_cons] at h
  obtain ⟨rfl,rfl,h⟩:=h
  simp [touch,meet_pre h]
theorem bump_le (q:Path) (v:Ver) (p:Path):v p≤bump q v p:=by
 unfold bump
 cases touch q p <;> simp
theorem bump_eq {q:Path} {v:Ver} {p:Path} (h:bump q v p=v p):¬ q <+: p:=fun hp=>by
 unfold bump at h
 rw [touch_pre hp] at h
 simp at h
theorem lenLt_pre:∀ {q p:Path},q <+: p→q≠p→lenLt q p=true
 | [],[],_,h=>absurd rfl h
 | [],_ :: _,_,_=>rfl
 | a :: q,[],h,_=>by simp at h
 | a :: q,b :: p,h,hne=>by
  rw [List.cons_prefix_cons] at h
  obtain ⟨rfl,h⟩:=h
  show lenLt q p=true
  exact lenLt_pre h fun e=>hne (by rw [e])
theorem deep_pre {q p:Path} (h:q <+: p) (hne:q≠p):deep q p=true:=by
 match q,p,h,hne with
 | [],[],_,hne=>exact absurd rfl hne
 | [],_ :: _,_,_=>rfl
 | [_],[],h,_=>simp at h
 | [_],_ :: _,_,_=>rfl
 | _ :: _ :: _,[],h,_=>simp at h
 | _ :: _ :: _,[_],h,_=>simp at h
 | i :: k :: q,i' :: k' :: p,h,hne =>
  rw [List.cons_prefix_cons,List.cons_prefix_cons] at h
  obtain ⟨rfl,rfl,h⟩:=h
  have:=lenLt_pre h fun e=>hne (by rw [e])
  simp [deep,this]
theorem bumpD_le (q:Path) (v:Ver) (p:Path):v p≤bumpD q v p:=by
 unfold bumpD
 cases deep q p <;> simp
theorem bumpD_eq {q:Path} {v:Ver} {p:Path} (h:bumpD q v p=v p):¬ (q <+: p∧q≠p):=fun ⟨hp,hne⟩=>by
 unfold bumpD at h
 rw [deep_pre hp hne] at h
 simp at h
theorem lenLe_iff:∀ {q p:Path},lenLe q p=true↔q.length≤p.length
 | [],_=>by simp [lenLe]
 | _ :: _,[]=>by simp [lenLe]
 | _ :: q,_ :: p=>by simp [lenLe,lenLe_iff (q:=q) (p:=p)]
/-! ### states ags lists -/
theorem beqF {a b:Nat} (h:a≠b):Nat.beq a b=false:=by
 cases e:Nat.beq a b
 ·rfl
 ·exact absurd (Nat.eq_of_beq_eq_true e) h
theorem beqT (a:Nat):Nat.beq a a=true:=Nat.beq_refl a
theorem beq_eq {a b:Nat} (h:Nat.beq a b=true):a=b:=Nat.eq_of_beq_eq_true h
theorem get_set (σ:St) (r r':Nat) (c:Ct):(σ.set r c).get r'=if r=r'∧σ.has r=true then c else σ.get r':=by
 induction σ with
 | nil=>simp [St.set,St.get,St.has]
 | cons x σ ih =>
  obtain ⟨r0,c0⟩:=x
  by_cases h:r0=r
  ·subst h
   by_cases h':r0=r'
   ·subst h';simp [St.set,St.get,St.has,beqT]
   ·simp [St.set,St.get,St.has,h',beqT,beqF h']
  ·by_cases h':r0=r'
   ·subst h'
    have h2:¬ r=r0:=fun e=>h e.symm
    simp [St.set,St.get,beqF h,h2,beqT]
   ·simp [St.set,St.get,St.has,beqF h,beqF h',ih]
theorem keys_set (σ:St) (r:Nat) (c:Ct):(σ.set r c).map (·.1)=σ.map (·.1):=by
 induction σ with
 | nil=>rfl
 | cons x σ ih =>
  obtain ⟨r0,c0⟩:=x
  cases h:Nat.beq r0 r <;> simp [St.set,h,ih]
theorem has_iff (σ:St) (r:Nat):σ.has r=true↔r∈σ.map (·.1):=by
 induction σ with
 | nil=>simp [St.has]
 | cons x σ ih =>
  obtain ⟨r0,c0⟩:=x
  by_cases h:r0=r
  ·subst h;simp [St.has,beqT]
  ·have h2:¬ r=r0:=fun e=>h e.symm
   simp only [St.has,beqF h,cond_false,ih,List.map_cons,List.mem_cons,h2,false_or]
theorem get_absent (σ:St) (r:Nat) (h:σ.has r=false):σ.get r=⟨z0,[]⟩:=by
 induction σ with
 | nil=>rfl
 | cons x σ ih =>
  obtain ⟨r0,c0⟩:=x
  cases e:Nat.beq r0 r
  ·simp [St.has,e] at h;simp [St.get,e,ih h]
  ·simp [St.has,e] at h
/-- The change of ghosts and versions under which what is said of references stays true. -/
def Good (G:GG) (V:Nat→Ver) (G':GG) (V':Nat→Ver):Prop:=∀ r,notPark r→∀ p,V r p≤V' r p∧(V' r p=V r p→G' r p=G r p)
theorem Good.refl (G:GG) (V:Nat→Ver):Good G V G V:=fun _ _ _=>⟨Nat.le_refl _,fun _=>rfl⟩
theorem Good.trans {G V G' V' G'' V''} (h:Good G V G' V') (k:Good G' V' G'' V''):Good G V G'' V'':=fun r hr p =>
 ⟨Nat.le_trans (h r hr p).1 (k r hr p).1,fun e=>by
  have h1:=(h r hr p).1
  have k1:=(k r hr p).1
  rw [(k r hr p).2 (by omega),(h r hr p).2 (by omega)]⟩
theorem RelPt.good {E G V G' V' x v} (h:Good G V G' V') (hx:RelPt E G V x v):RelPt E G' V' x v:=by
 cases x with
 | pim m g=>exact hx
 | ptr r ver p m j k =>
  obtain ⟨b,o,hv,h0,h1,h2⟩:=hx
  obtain ⟨g1,g2⟩:=h r h0.1 p
  refine ⟨b,o,hv,h0,by omega,fun e=>?_⟩
  rw [g2 (by omega)]
  exact h2 (by omega)
theorem RelC.good {E G V G' V' w g c v} (h:Good G V G' V') (hx:RelC E G V w g c v):RelC E G' V' w g c v:=by
 cases c with
 | tr o t=>cases o <;> exact hx
 | dead=>exact hx
 | pt x=>exact RelPt.good h hx
 | fn f caps =>
  obtain ⟨vs,h1,h2,h3⟩:=hx
  refine ⟨vs,h1,h2,fun i x hi=>?_⟩
  obtain ⟨u,hu,hr⟩:=h3 i x hi
  exact ⟨u,hu,RelPt.good h hr⟩
 | ref r ver p m s n =>
  obtain ⟨A,cap,h1,h2,h3,h4,h5⟩:=hx
  obtain ⟨g1,g2⟩:=h r h3.1 p
  refine ⟨A,cap,h1,h2,h3,by omega,fun e=>?_⟩
  rw [g2 (by omega)]
  exact h5 (by omega)
theorem RelCs.good {E G V G' V' w g cs vs} (h:Good G V G' V') (hx:RelCs E G V w g cs vs):RelCs E G' V' w g cs vs :=
 ⟨hx.1,fun k c hk=>let ⟨u,hu,hr⟩:=hx.2 k c hk;⟨u,hu,RelC.good h hr⟩⟩
theorem RelRow.good {E G V G' V' w g row v} (h:Good G V G' V') (hx:RelRow E G V w g row v):RelRow E G' V' w g row v:=by
 obtain ⟨ag,cs⟩:=row
 cases ag with
 | true=>obtain ⟨vs,e,hc⟩:=hx;exact ⟨vs,e,hc.good h⟩
 | false=>match cs,hx with
  | [],hx=>exact hx
  | [c],hx=>exact RelC.good h hx
theorem RelRows.good {E G V G' V' w g rows v} (h:Good G V G' V') (hx:RelRows E G V w g rows v):RelRows E G' V' w g rows v:=by
 match rows,hx with
 | [],_=>trivial
 | [row],hx=>exact RelRow.good (row:=row) (g:=fun k q=>g (0 :: k :: q)) h hx
 | r :: r' :: rs,hx =>
  obtain ⟨vs,e,hs,hi⟩:=hx
  exact ⟨vs,e,hs,fun i row hr=>let ⟨u,hu,h1⟩:=hi i row hr;⟨u,hu,RelRow.good h h1⟩⟩
/-! ### a change of the world -/
theorem RelOwn.ext {w w':World} {t:T} {g:Gh} {v:Value} (h:RelOwn w t g v) (hb:∀ p ad c,g p=some (ad,c)→w'.heap[ad.block]?=w.heap[ad.block]?):RelOwn w' t g v:=by
 induction t generalizing g v with
 | int | bool | str | hole | lent=>exact h
 | arr m n f ih =>
  rcases h with h | ⟨b,off,cap,cs,e,hg,hv,hn,hc,hs,hh⟩
  ·exact .inl h
  ·refine .inr ⟨b,off,cap,cs,e,hg,hv,hn,(hb _ _ _ hg).trans hc,hs,fun j hj k hk=>?_⟩
   obtain ⟨u,hu,hr⟩:=hh j hj k hk
   exact ⟨u,hu,ih j k hr fun p ad c hp=>hb _ _ _ hp⟩
theorem RelC.ext {E G V w w' g c v} (h:RelC E G V w g c v) (hb:∀ p ad c,g p=some (ad,c)→w'.heap[ad.block]?=w.heap[ad.block]?):RelC E G V w' g c v:=by
 cases c with
 | tr o t=>cases o with
  | true=>exact RelOwn.ext h hb
  | false=>exact h
 | _=>exact h
theorem RelCs.ext {E G V w w' g cs vs} (h:RelCs E G V w g cs vs) (hb:∀ k p ad c,g k p=some (ad,c)→w'.heap[ad.block]?=w.heap[ad.block]?):RelCs E G V w' g cs vs :=
 ⟨h.1,fun k c hk=>let ⟨u,hu,hr⟩:=h.2 k c hk;⟨u,hu,RelC.ext hr (hb k)⟩⟩
theorem RelRow.ext {E G V w w' g row v} (h:RelRow E G V w g row v) (hb:∀ k p ad c,g k p=some (ad,c)→w'.heap[ad.block]?=w.heap[ad.block]?):RelRow E G V w' g row v:=by
 obtain ⟨ag,cs⟩:=row
 cases ag with
 | true=>obtain ⟨vs,e,hc⟩:=h;exact ⟨vs,e,hc.ext hb⟩
 | false=>match cs,h with
  | [],hx=>exact hx
  | [c],hx=>exact RelC.ext hx (hb 0)
theorem RelRows.ext {E G V w w' g rows v} (h:RelRows E G V w g rows v) (hb:∀ p ad c,g p=some (ad,c)→w'.heap[ad.block]?=w.heap[ad.block]?):RelRows E G V w' g rows v:=by
 match rows,h with
 | [],_=>trivial
 | [row],hx=>exact RelRow.ext (row:=row) (g:=fun k q=>g (0 :: k :: q)) hx fun k p ad c hp=>hb _ _ _ hp
 | r :: r' :: rs,hx =>
  obtain ⟨vs,e,hs,hi⟩:=hx
  exact ⟨vs,e,hs,fun i row hr=>let ⟨u,hu,h1⟩:=hi i row hr;⟨u,hu,RelRow.ext h1 fun k p ad c hp=>hb _ _ _ hp⟩⟩
/-- The world has turned nowhere where the state owns, nor where nobody writes. -/
theorem Rel.world {E σ a w w' G} (h:Rel E σ a w G) (ho:w'.os=w.os) (ht:w'.tape=w.tape) (hp:w'.output=w.output) (hs:w.heap.size≤w'.heap.size)
  (hn:∀ b,E.N b→w'.heap[b]?=w.heap[b]?) (hb:∀ r p ad c,G r p=some (ad,c)→w'.heap[ad.block]?=w.heap[ad.block]?):Rel E σ a w' G where
 nd:=h.nd
 inj:=h.inj
 rng:=fun r p ad c hg=>⟨(h.rng r p ad c hg).1,Nat.lt_of_lt_of_le (h.rng r p ad c hg).2 hs⟩
 os:=ho.trans h.os
 tape:=ht.trans h.tape
 output:=hp.trans h.output
 size:=Nat.le_trans h.size hs
 kept:=fun b hbN=>(hn b hbN).trans (h.kept b hbN)
 slots:=fun t=>(h.slots t).ext fun p ad c hg=>hb _ _ _ _ hg
 boxes:=fun t=>(h.boxes t).imp id fun ⟨row,b,cs,e,h1,h2,h3,h4⟩=>⟨row,b,cs,e,h1,h2,(hb _ _ _ _ h2).trans h3,h4.ext fun k p ad c hg=>hb _ _ _ _ hg⟩
 exts:=fun t=>(h.exts t).ext fun p ad c hg=>hb _ _ _ _ hg
 xbox:=h.xbox
 defers:=h.defers
 tm:=h.tm
 here:=h.here
/-- The world has turned nowhere where a slot or a box owns, nor where nobody writes. -/
theorem Rel.world' {E σ a w w' G} (h:Rel E σ a w G) (ho:w'.os=w.os) (ht:w'.tape=w.tape) (hp:w'.output=w.output) (hs:w.heap.size≤w'.heap.size)
  (hn:∀ b,E.N b→w'.heap[b]?=w.heap[b]?) (hb:∀ r p ad c,notPark r→G r p=some (ad,c)→w'.heap[ad.block]?=w.heap[ad.block]?):Rel E σ a w' G where
 nd:=h.nd
 inj:=h.inj
 rng:=fun r p ad c hg=>⟨(h.rng r p ad c hg).1,Nat.lt_of_lt_of_le (h.rng r p ad c hg).2 hs⟩
 os:=ho.trans h.os
 tape:=ht.trans h.tape
 output:=hp.trans h.output
 size:=Nat.le_trans h.size hs
 kept:=fun b hbN=>(hn b hbN).trans (h.kept b hbN)
 slots:=fun t=>(h.slots t).ext fun p ad c hg=>hb _ _ _ _ (by unfold notPark slot;omega) hg
 boxes:=fun t=>(h.boxes t).imp id fun ⟨row,b,cs,e,h1,h2,h3,h4⟩=>⟨row,b,cs,e,h1,h2,(hb _ _ _ _ (by unfold notPark box;omega) h2).trans h3,h4.ext fun k p ad c hg=>hb _ _ _ _ (by unfold notPark box;omega) hg⟩
 exts:=fun t=>(h.exts t).ext fun p ad c hg=>hb _ _ _ _ (by unfold notPark ext;omega) hg
 xbox:=h.xbox
 defers:=h.defers
 tm:=h.tm
 here:=h.here
/-- The world has grown. -/
structure Grew (w w':World):Prop where
 os:w'.os=w.os
 tape:w'.tape=w.tape
 output:w'.output=w.output
 size:w.heap.size≤w'.heap.size
 old:∀ b,b < w.heap.size→w'.heap[b]?=w.heap[b]?
theorem Grew.refl (w:World):Grew w w:=⟨rfl,rfl,rfl,Nat.le_refl _,fun _ _=>rfl⟩
theorem Rel.grew {E σ a w w' G} (h:Rel E σ a w G) (k:Grew w w'):Rel E σ a w' G :=
 h.world k.os k.tape k.output k.size (fun b hb=>k.old b (Nat.lt_of_lt_of_le hb.1 h.size)) fun r p ad c hg=>k.old _ (h.rng r p ad c hg).2
/-! ### the ghosts in flight ('park') -/
theorem np_slot (t:Nat):notPark (slot t):=by unfold notPark slot;omega
theorem np_box (t:Nat):notPark (box t):=by unfold notPark box;omega
theorem np_ext (t:Nat):notPark (ext t):=by unfold notPark ext;omega
theorem ext_inj {t u:Nat} (h:ext t=ext u):t=u:=by unfold ext at h;omega
theorem slot_ne_ext (t u:Nat):slot t≠ext u:=by unfold slot ext;omega
theorem box_ne_ext (t u:Nat):box t≠ext u:=by unfold box ext;omega
theorem ext_ne_park (t u:Nat):ext t≠park u:=by unfold ext park;omega
theorem not_np_park (t:Nat):¬ notPark (park t):=by unfold notPark park;omega
theorem slot_inj {t u:Nat} (h:slot t=slot u):t=u:=by unfold slot at h;omega
theorem box_inj {t u:Nat} (h:box t=box u):t=u:=by unfold box at h;omega
theorem park_inj {t u:Nat} (h:park t=park u):t=u:=by unfold park at h;omega
theorem slot_ne_box (t u:Nat):slot t≠box u:=by unfold slot box;omega
theorem slot_ne_park (t u:Nat):slot t≠park u:=by unfold slot park;omega
theorem box_ne_park (t u:Nat):box t≠park u:=by unfold box park;omega
theorem np_ne_park {r:Nat} (h:notPark r) (u:Nat):r≠park u:=fun e=>not_np_park u (e ▸ h)
def GInj (G:GG):Prop:=∀ r p r' p' ad c ad' c',G r p=some (ad,c)→G r' p'=some (ad',c')→ad.block=ad'.block→r=r'∧p=p'
def GRng (E:Env) (w:World) (G:GG):Prop:=∀ r p ad c,G r p=some (ad,c)→(E.w0.heap.size≤ad.block∨E.D ad.block)∧ad.block < w.heap.size
/-- What is in flight may be told anew. -/
theorem Rel.parks {E σ a w G} (h:Rel E σ a w G) (G':GG) (hnp:∀ r,notPark r→G' r=G r) (hi:GInj G') (hr:GRng E w G'):Rel E σ a w G' where
 nd:=h.nd
 inj:=hi
 rng:=hr
 os:=h.os
 tape:=h.tape
 output:=h.output
 size:=h.size
 kept:=h.kept
 slots:=fun t=>by
  rw [hnp _ (np_slot t)]
  exact (h.slots t).good fun r hr p=>⟨Nat.le_refl _,fun _=>by rw [hnp r hr]⟩
 boxes:=fun t=>by
  rw [hnp _ (np_box t)]
  exact (h.boxes t).imp id fun ⟨row,b,cs,e,h1,h2,h3,h4⟩=>⟨row,b,cs,e,h1,h2,h3,h4.good fun r hr p=>⟨Nat.le_refl _,fun _=>by rw [hnp r hr]⟩⟩
 exts:=fun t=>by
  rw [hnp _ (np_ext t)]
  exact (h.exts t).good fun r hr p=>⟨Nat.le_refl _,fun _=>by rw [hnp r hr]⟩
 xbox:=fun t ht=>by rw [hnp _ (np_box t)];exact h.xbox t ht
 defers:=h.defers
 tm:=h.tm
 here:=h.here
theorem Good.parks {G:GG} {V:Nat→Ver} (G':GG) (hnp:∀ r,notPark r→G' r=G r):Good G V G' V:=fun r hr p=>⟨Nat.le_refl _,fun _=>by rw [hnp r hr]⟩
/-- Nothing is in flight there any more. -/
def clr (G:GG) (r:Nat):GG:=fun r'=>if r'=r then noG else G r'
theorem clr_some {G:GG} {r r':Nat} {p:Path} {x} (h:clr G r r' p=some x):r'≠r∧G r' p=some x:=by
 unfold clr at h
 split at h
 ·simp [noG] at h
 ·exact ⟨‹_›,h⟩
theorem Rel.clear {E σ a w G} (h:Rel E σ a w G) (x:Nat):Rel E σ a w (clr G (park x)) :=
 h.parks _ (fun r hr=>by simp [clr,np_ne_park hr x])
  (fun r p r' p' ad c ad' c' h1 h2=>h.inj _ _ _ _ _ _ _ _ (clr_some h1).2 (clr_some h2).2)
  (fun r p ad c h1=>h.rng _ _ _ _ (clr_some h1).2)
/-! ### a slot is written -/
def mvG (G:GG) (r s:Nat):GG:=fun r'=>if r'=r then G s else if r'=s then noG else G r'
theorem mvG_some {G:GG} {r s r':Nat} {p:Path} {x} (h:mvG G r s r' p=some x):(r'=r∧G s p=some x)∨(r'≠r∧r'≠s∧G r' p=some x):=by
 unfold mvG at h
 split at h
 ·exact .inl ⟨‹_›,h⟩
 ·split at h
  ·simp [noG] at h
  ·exact .inr ⟨‹_›,‹_›,h⟩
theorem mvG_inj {G:GG} (h:GInj G) (r s:Nat):GInj (mvG G r s):=by
 intro r1 p1 r2 p2 ad c ad' c' h1 h2 hb
 rcases mvG_some h1 with ⟨e1,g1⟩ | ⟨n1,m1,g1⟩ <;> rcases mvG_some h2 with ⟨e2,g2⟩ | ⟨n2,m2,g2⟩
 ·exact ⟨e1.trans e2.symm,(h _ _ _ _ _ _ _ _ g1 g2 hb).2⟩
 ·exact absurd (h _ _ _ _ _ _ _ _ g1 g2 hb).1.symm m2
 ·exact absurd (h _ _ _ _ _ _ _ _ g1 g2 hb).1 m1
 ·exact h _ _ _ _ _ _ _ _ g1 g2 hb
theorem mvG_rng {E w} {G:GG} (h:GRng E w G) (r s:Nat):GRng E w (mvG G r s):=by
 intro r1 p1 ad c h1
 rcases mvG_some h1 with ⟨e1,g1⟩ | ⟨n1,m1,g1⟩
 ·exact h _ _ _ _ g1
 ·exact h _ _ _ _ g1
theorem put_getD (a:Act) (d t:Nat) (v:Value) (hd:d < a.tmps.size):(a.put (some d) v).tmps.getD t undef=if t=d then v else a.tmps.getD t undef:=by
 simp only [Act.put,Array.getD_eq_getD_getElem?,Array.getElem?_setIfInBounds]
 by_cases e:t=d
 ·subst e;simp [hd]
 ·have e':¬ d=t:=fun x=>e x.symm
  simp [e,e']
theorem Rel.put {E σ a w G} (h:Rel E σ a w G) (d x:Nat) (hd:σ.has (slot d)=true) {rows:List Row} {v:Value}
  (hr:RelRows E G (fun r=>(σ.get r).ver) w (G (park x)) rows v) :
  Rel E (σ.set (slot d) ⟨bump [] (σ.get (slot d)).ver,rows⟩) (a.put (some d) v) w (mvG G (slot d) (park x)):=by
 have hlt:d < a.tmps.size:=by rw [h.tm];exact h.here d hd
 have hg:Good G (fun r=>(σ.get r).ver) (mvG G (slot d) (park x)) (fun r=>((σ.set (slot d) ⟨bump [] (σ.get (slot d)).ver,rows⟩).get r).ver):=by
  intro r hnp p
  simp only [get_set,hd,and_true]
  by_cases e:slot d=r
  ·subst e;simp [bump_nil]
  ·have e':¬ r=slot d:=fun x=>e x.symm
   simp [e,mvG,e',np_ne_park hnp x]
 refine { nd:=by rw [keys_set];exact h.nd,inj:=mvG_inj h.inj _ _,rng:=mvG_rng h.rng _ _,os:=h.os,tape:=h.tape,output:=h.output,size:=h.size,kept:=h.kept,slots:=fun t=>?_,boxes:=fun t=>?_,exts:=fun t=>?_,xbox:=fun t ht=>?_,defers:=by simpa [Act.put] using h.defers,tm:=by simpa [Act.put] using h.tm,here:=fun t ht=>h.here t (by rw [has_iff] at *;rwa [keys_set] at ht) }
 ·rw [put_getD _ _ _ _ hlt]
  by_cases e:t=d
  ·subst e
   have:((σ.set (slot t) ⟨bump [] (σ.get (slot t)).ver,rows⟩).get (slot t)).rows=rows:=by simp [get_set,hd]
   rw [this,if_pos rfl]
   have e2:mvG G (slot t) (park x) (slot t)=G (park x):=by simp [mvG]
   rw [e2]
   exact hr.good hg
  ·have e1:¬ slot d=slot t:=fun x=>e (slot_inj x).symm
   have e3:¬ slot t=slot d:=fun x=>e (slot_inj x)
   have:((σ.set (slot d) ⟨bump [] (σ.get (slot d)).ver,rows⟩).get (slot t)).rows=(σ.get (slot t)).rows:=by simp [get_set,e1]
   rw [this,if_neg e]
   have e2:mvG G (slot d) (park x) (slot t)=G (slot t):=by simp [mvG,e3,slot_ne_park]
   rw [e2]
   exact (h.slots t).good hg
 ·have:((σ.set (slot d) ⟨bump [] (σ.get (slot d)).ver,rows⟩).get (box t)).rows=(σ.get (box t)).rows:=by simp [get_set,slot_ne_box]
  have e2:mvG G (slot d) (park x) (box t)=G (box t):=by unfold mvG;rw [if_neg (slot_ne_box d t).symm,if_neg (box_ne_park t x)]
  rw [this,e2]
  exact (h.boxes t).imp id fun ⟨row,b,cs,e,h1,h2,h3,h4⟩=>⟨row,b,cs,e,h1,h2,h3,h4.good hg⟩
 ·have:((σ.set (slot d) ⟨bump [] (σ.get (slot d)).ver,rows⟩).get (ext t)).rows=(σ.get (ext t)).rows:=by simp [get_set,slot_ne_ext]
  have e2:mvG G (slot d) (park x) (ext t)=G (ext t):=by unfold mvG;rw [if_neg (slot_ne_ext d t).symm,if_neg (ext_ne_park t x)]
  rw [this,e2]
  exact (h.exts t).good hg
 ·have e2:mvG G (slot d) (park x) (box t)=G (box t):=by unfold mvG;rw [if_neg (slot_ne_box d t).symm,if_neg (box_ne_park t x)]
  rw [e2]
  exact h.xbox t ht
end Go.Mach
namespace Go.Mach
theorem own_at {w:World}:(p:Path)→{t t':T}→{g:Gh}→{v:Value}→RelOwn w t g v→t.at p=some t'→∃ v',RelOwn w t' (fun q=>g (p ++ q)) v'
 | [],t,t',g,v,h,e=>by
  have:t=t':=by cases t <;> simpa [T.at] using e
  subst this
  exact ⟨v,h⟩
 | [j],t,t',g,v,h,e=>by cases t <;> simp [T.at] at e
 | j :: k :: q,t,t',g,v,h,e=>by
  cases t with
  | arr m n f =>
   simp only [T.at] at e
   cases hg:(Nat.blt j n&&Nat.blt k m) with
   | false=>simp [hg] at e
   | true =>
    simp only [hg,cond_true] at e
    simp only [Bool.and_eq_true,Nat.blt_eq] at hg
    rcases h with ⟨_,h0,_⟩ | ⟨b,off,cap,cs,e',h1,h2,h3,h4,h5,h6⟩
    ·omega
    ·obtain ⟨u,hu,hr⟩:=h6 j hg.1 k hg.2
     exact own_at q hr e
  | _=>simp [T.at] at e
theorem RelOwn.one {w:World} {t:T} {g:Gh} {v:Value} (h:RelOwn w t g v):v.oneCell'=true:=by
 cases t with
 | arr m n f =>
  rcases h with ⟨_,_,rfl⟩ | ⟨b,off,cap,cs,e',h1,rfl,_⟩ <;> rfl
 | int k n=>cases h;rfl
 | bool b=>cases h;rfl
 | str s=>cases h;rfl
 | hole=>exact h
 | lent m n=>rcases h with ⟨_,_,rfl⟩ | ⟨b,off,cap,_,rfl,_⟩ <;> rfl
theorem own_hole {w:World}:(p:Path)→{t t':T}→{g g':Gh}→{v:Value}→RelOwn w t g v→t.put p .hole=some t'→(∀ q,¬ p <+: q→g' q=g q)→RelOwn w t' g' v
 | [],t,t',g,g',v,h,e,_=>by
  have:t'=.hole:=by cases t <;> simp [T.put] at e <;> exact e.symm
  subst this
  exact h.one
 | [j],t,t',g,g',v,h,e,_=>by cases t <;> simp [T.put] at e
 | j :: k :: q,t,t',g,g',v,h,e,hg=>by
  cases t with
  | arr m n f =>
   simp only [T.put] at e
   cases hb:(Nat.blt j n&&Nat.blt k m) with
   | false=>simp [hb] at e
   | true =>
    simp only [hb,cond_true] at e
    simp only [Bool.and_eq_true,Nat.blt_eq] at hb
    cases hp:(f j k).put q .hole with
    | none=>simp [hp] at e
    | some t1 =>
     simp only [hp,Option.some.injEq] at e
     subst e
     have hg0:g' []=g []:=hg [] (by simp)
     rcases h with ⟨_,h0,_⟩ | ⟨b,off,cap,cs,e',h1,h2,h3,h4,h5,h6⟩
     ·omega
     ·refine .inr ⟨b,off,cap,cs,e',hg0.trans h1,h2,h3,h4,h5,fun j' hj k' hk=>?_⟩
      obtain ⟨u,hu,hr⟩:=h6 j' hj k' hk
      refine ⟨u,hu,?_⟩
      by_cases ej:j'=j∧k'=k
      ·obtain ⟨rfl,rfl⟩:=ej
       simp only [beqT,Bool.and_self,cond_true]
       exact own_hole q hr hp fun q' hq'=>hg _ (by simpa using hq')
      ·have:(Nat.beq j' j&&Nat.beq k' k)=false:=by
        by_cases e1:j'=j
        ·have e2:k'≠k:=fun e2=>ej ⟨e1,e2⟩
         simp [beqF e2]
        ·simp [beqF e1]
       simp only [this,cond_false]
       have:(fun q'=>g' (j' :: k' :: q'))=fun q'=>g (j' :: k' :: q'):=funext fun q'=>hg _ (by
        intro hpre
        rw [List.cons_prefix_cons,List.cons_prefix_cons] at hpre
        exact ej ⟨hpre.1.symm,hpre.2.1.symm⟩)
       rw [this]
       exact hr
  | _=>simp [T.put] at e
theorem RelCs.set {E G V w g g' cs vs k c'} (h:RelCs E G V w g cs vs) (hk:∀ u,vs[k]?=some u→RelC E G V w (g' k) c' u) (hg:∀ k',k'≠k→g' k'=g k') :
  RelCs E G V w g' (cs.set k c') vs:=by
 refine ⟨by simpa using h.1,fun i c hi=>?_⟩
 by_cases e:i=k
 ·subst e
  have hlt:i < cs.length:=by
   have:=(List.getElem?_eq_some_iff.1 hi).1
   simpa using this
  have hv:i < vs.size:=by rw [h.1];exact hlt
  have:c=c':=by
   rw [List.getElem?_set_self hlt] at hi
   exact (Option.some.inj hi).symm
  subst this
  exact ⟨vs[i],Array.getElem?_eq_getElem hv,hk _ (Array.getElem?_eq_getElem hv)⟩
 ·rw [List.getElem?_set_ne (fun x=>e x.symm)] at hi
  rw [hg i e]
  exact h.2 i c hi
theorem RelCs.at {E G V w g cs vs k c} (h:RelCs E G V w g cs vs) (hk:cs[k]?=some c):∃ u,vs[k]?=some u∧RelC E G V w (g k) c u:=h.2 k c hk
/-- A row that is no agg has one cell, or none. -/
theorem RelRow.cs {E G V w g ag cs v} (h:RelRow E G V w g (ag,cs) v) (hne:cs≠[]):∃ vs:Array Value,RelCs E G V w g cs vs ∧
  (∀ E' G' V' w' g' cs',cs'.length=cs.length→RelCs E' G' V' w' g' cs' vs→RelRow E' G' V' w' g' (ag,cs') v):=by
 cases ag with
 | true =>
  obtain ⟨vs,e,hc⟩:=h
  exact ⟨vs,hc,fun _ _ _ _ g' cs' _ h'=>⟨vs,e,h'⟩⟩
 | false=>match cs,h with
  | [],h=>exact absurd rfl hne
  | [c],h =>
   refine ⟨#[v],⟨rfl,fun k c' hk=>?_⟩,fun _ _ _ _ g' cs' hl h'=>?_⟩
   ·cases k with
    | zero=>simp at hk;subst hk;exact ⟨v,rfl,h⟩
    | succ k=>simp at hk
   ·match cs',hl with
    | [c'],_ =>
     obtain ⟨u,hu,hr⟩:=h'.2 0 c' rfl
     simp at hu
     subst hu
     exact hr
/-- One row of several, taken out and put back. -/
theorem RelRows.row {E G V w g rows v i row} (h:RelRows E G V w g rows v) (hi:rows[i]?=some row):∃ u,RelRow E G V w (fun k q=>g (i :: k :: q)) row u ∧
  (∀ g' row',(∀ i' k q,i'≠i→g' (i' :: k :: q)=g (i' :: k :: q))→RelRow E G V w (fun k q=>g' (i :: k :: q)) row' u→RelRows E G V w g' (rows.set i row') v):=by
 match rows,h with
 | [],_=>simp at hi
 | [r],h =>
  cases i with
  | zero=>simp at hi;subst hi;exact ⟨v,h,fun g' row' _ h'=>h'⟩
  | succ i=>simp at hi
 | r :: r' :: rs,⟨vs,e,hs,hh⟩ =>
  obtain ⟨u,hu,hr⟩:=hh i row hi
  refine ⟨u,hr,fun g' row' hg h'=>?_⟩
  have hl:i < (r :: r' :: rs).length:=(List.getElem?_eq_some_iff.1 hi).1
  have key:∀ l:List Row,l=(r :: r' :: rs).set i row'→RelRows E G V w g' l v:=by
   intro l el
   have hlen:l.length=(r :: r' :: rs).length:=by rw [el];simp
   match l,hlen,el with
   | a :: b :: l,hlen,el =>
    refine ⟨vs,e,by omega,fun i' row'' hi'=>?_⟩
    rw [el] at hi'
    by_cases e':i'=i
    ·subst e'
     rw [List.getElem?_set_self hl] at hi'
     obtain rfl:=Option.some.inj hi'
     exact ⟨u,hu,h'⟩
    ·rw [List.getElem?_set_ne (fun x=>e' x.symm)] at hi'
     obtain ⟨u',hu',hr'⟩:=hh i' row'' hi'
     refine ⟨u',hu',?_⟩
     have:(fun k q=>g' (i' :: k :: q))=fun k q=>g (i' :: k :: q):=by funext k q;exact hg i' k q e'
     rw [this]
     exact hr'
  exact key _ rfl
theorem rowsAt_some {rows:List Row} {p:Path} {t:T} (h:rowsAt rows p=some t):∃ i k q ag cs t0,p=i :: k :: q∧rows[i]?=some (ag,cs)∧cs[k]?=some (.tr true t0)∧t0.at q=some t:=by
 match p,h with
 | i :: k :: q,h =>
  simp only [rowsAt] at h
  split at h
  ·rename_i ag cs h1
   split at h
   ·rename_i t0 h2
    exact ⟨i,k,q,ag,cs,t0,rfl,h1,h2,h⟩
   ·simp at h
  ·simp at h
theorem rowsPut_some {rows rows':List Row} {p:Path} {u:T} (h:rowsPut rows u p=some rows'):∃ i k q ag cs t0 t1,p=i :: k :: q∧rows[i]?=some (ag,cs)∧cs[k]?=some (.tr true t0)∧t0.put q u=some t1 ∧
  rows'=rows.set i (ag,cs.set k (.tr true t1)):=by
 match p,h with
 | i :: k :: q,h =>
  simp only [rowsPut] at h
  split at h
  ·rename_i ag cs h1
   split at h
   ·rename_i t0 h2
    split at h
    ·rename_i t1 h3
     exact ⟨i,k,q,ag,cs,t0,t1,rfl,h1,h2,h3,(Option.some.inj h).symm⟩
    ·simp at h
   ·simp at h
  ·simp at h
theorem RelRows.at {E G V w g rows v p t} (h:RelRows E G V w g rows v) (ha:rowsAt rows p=some t):∃ v',RelOwn w t (fun q=>g (p ++ q)) v':=by
 obtain ⟨i,k,q,ag,cs,t0,rfl,h1,h2,h3⟩:=rowsAt_some ha
 obtain ⟨u,hr,_⟩:=h.row h1
 obtain ⟨vs,hc,_⟩:=hr.cs (by rintro rfl;simp at h2)
 obtain ⟨x,_,hx⟩:=hc.at h2
 exact own_at q hx h3
theorem RelRows.hole {E G V w g g' rows rows' v p} (h:RelRows E G V w g rows v) (ha:rowsPut rows .hole p=some rows') (hg:∀ q,¬ p <+: q→g' q=g q):RelRows E G V w g' rows' v:=by
 obtain ⟨i,k,q,ag,cs,t0,t1,rfl,h1,h2,h3,rfl⟩:=rowsPut_some ha
 obtain ⟨u,hr,back⟩:=h.row h1
 obtain ⟨vs,hc,back'⟩:=hr.cs (by rintro rfl;simp at h2)
 refine back g' _ (fun i' k' q' hne=>hg _ fun hp=>?_) (back' _ _ _ _ _ _ (by simp) (hc.set (fun x hx=>?_) fun k' hk'=>?_))
 ·rw [List.cons_prefix_cons] at hp
  exact hne hp.1.symm
 ·obtain ⟨x',hx',hxr⟩:=hc.at h2
  rw [hx] at hx'
  obtain rfl:=Option.some.inj hx'
  exact own_hole q hxr h3 fun q' hq'=>hg _ (by simpa using hq')
 ·funext q'
  exact hg _ fun hp=>by
   rw [List.cons_prefix_cons,List.cons_prefix_cons] at hp
   exact hk' hp.2.1.symm
/-- What a state says of a box. -/
def RelBox (E:Env) (G:GG) (V:Nat→Ver) (w:World) (g:Gh) (rows:List Row):Prop :=
 rows=[]∨∃ row b cs e,rows=[row]∧g []=some (⟨b,0,none⟩,1)∧w.heap[b]?=some (.cells cs e (0,0))∧RelCs E G V w (fun k q=>g (0 :: k :: q)) row.2 cs
theorem Rel.box' {E σ a w G} (h:Rel E σ a w G) (t:Nat):RelBox E G (fun r=>(σ.get r).ver) w (G (box t)) (σ.get (box t)).rows:=h.boxes t
theorem RelBox.good {E G V G' V' w g rows} (h:Good G V G' V') (hx:RelBox E G V w g rows):RelBox E G' V' w g rows :=
 hx.imp id fun ⟨row,b,cs,e,h1,h2,h3,h4⟩=>⟨row,b,cs,e,h1,h2,h3,h4.good h⟩
theorem RelBox.at {E G V w g rows p t} (h:RelBox E G V w g rows) (ha:rowsAt rows p=some t):∃ v',RelOwn w t (fun q=>g (p ++ q)) v':=by
 obtain ⟨i,k,q,ag,cs,t0,rfl,h1,h2,h3⟩:=rowsAt_some ha
 rcases h with rfl | ⟨row,b,vs,e,rfl,_,_,hc⟩
 ·simp at h1
 ·cases i with
  | succ i=>simp at h1
  | zero =>
   simp at h1
   subst h1
   obtain ⟨x,_,hx⟩:=hc.at h2
   exact own_at q hx h3
theorem RelBox.hole {E G V w g g' rows rows' p} (h:RelBox E G V w g rows) (ha:rowsPut rows .hole p=some rows') (hg:∀ q,¬ p <+: q→g' q=g q):RelBox E G V w g' rows':=by
 obtain ⟨i,k,q,ag,cs,t0,t1,rfl,h1,h2,h3,rfl⟩:=rowsPut_some ha
 rcases h with rfl | ⟨row,b,vs,e,rfl,hb,hw,hc⟩
 ·simp at h1
 ·cases i with
  | succ i=>simp at h1
  | zero =>
   simp at h1
   subst h1
   refine .inr ⟨(ag,cs.set k (.tr true t1)),b,vs,e,rfl,(hg [] (by simp)).trans hb,hw,hc.set (fun x hx=>?_) fun k' hk'=>?_⟩
   ·obtain ⟨x',hx',hxr⟩:=hc.at h2
    rw [hx] at hx'
    obtain rfl:=Option.some.inj hx'
    exact own_hole q hxr h3 fun q' hq'=>hg _ (by simpa using hq')
   ·funext q'
    exact hg _ fun hp=>by
     rw [List.cons_prefix_cons,List.cons_prefix_cons] at hp
     exact hk' hp.2.1.symm
theorem np_cases {r:Nat} (h:notPark r):∃ t,r=slot t∨r=box t∨r=ext t:=by
 refine ⟨r / 4,?_⟩
 unfold notPark at h
 unfold slot box ext
 omega
/-- A root's content is told anew: what lies in the root, and its ghost. -/
theorem Rel.rootV {E σ a w G G'} (h:Rel E σ a w G) (r:Nat) (hnp:notPark r) (rows:List Row) (V':Ver) (hi:GInj G') (hr:GRng E w G') (hG:∀ r',notPark r'→r'≠r→G' r'=G r') (hv:∀ p,(σ.get r).ver p≤V' p∧(V' p=(σ.get r).ver p→G' r p=G r p))
  (hs:∀ t,r=slot t→RelRows E G (fun r=>(σ.get r).ver) w (G' r) rows (a.tmps.getD t undef))
  (hb:∀ t,r=box t→RelBox E G (fun r=>(σ.get r).ver) w (G' r) rows∧(E.nt≤t→G' r []=E.xb t))
  (hx:∀ t,r=ext t→RelRows E G (fun r=>(σ.get r).ver) w (G' r) rows (E.x t)) (hhas:σ.has r=true) :
  Rel E (σ.set r ⟨V',rows⟩) a w G'∧Good G (fun r=>(σ.get r).ver) G' (fun r'=>((σ.set r ⟨V',rows⟩).get r').ver):=by
 have hg:Good G (fun r=>(σ.get r).ver) G' (fun r'=>((σ.set r ⟨V',rows⟩).get r').ver):=by
  intro r' hr' p
  simp only [get_set,hhas,and_true]
  by_cases e:r=r'
  ·subst e
   simp only [if_true]
   exact hv p
  ·simp [e,hG r' hr' (fun x=>e x.symm)]
 have hget:∀ r',r'≠r→(σ.set r ⟨V',rows⟩).get r'=σ.get r':=fun r' hne=>by
  rw [get_set,if_neg fun x=>hne x.1.symm]
 have hself:(σ.set r ⟨V',rows⟩).get r=⟨V',rows⟩:=by rw [get_set,if_pos ⟨rfl,hhas⟩]
 refine ⟨{ nd:=by rw [keys_set];exact h.nd,inj:=hi,rng:=hr,os:=h.os,tape:=h.tape,output:=h.output,size:=h.size,kept:=h.kept,slots:=fun t=>?_,boxes:=fun t=>?_,exts:=fun t=>?_,xbox:=fun t ht=>?_,defers:=h.defers,tm:=h.tm,here:=fun t ht=>h.here t (by rw [has_iff] at *;rwa [keys_set] at ht) },hg⟩
 ·by_cases e:slot t=r
  ·rw [e,hself]
   exact (hs t e.symm).good hg
  ·rw [hget _ e,hG _ (np_slot t) e]
   exact (h.slots t).good hg
 ·by_cases e:box t=r
  ·rw [e,hself]
   exact (hb t e.symm).1.good hg
  ·rw [hget _ e,hG _ (np_box t) e]
   exact (h.box' t).good hg
 ·by_cases e:ext t=r
  ·rw [e,hself]
   exact (hx t e.symm).good hg
  ·rw [hget _ e,hG _ (np_ext t) e]
   exact (h.exts t).good hg
 ·by_cases e:box t=r
  ·rw [e]
   exact (hb t e.symm).2 ht
  ·rw [hG _ (np_box t) e]
   exact h.xbox t ht
theorem Rel.root {E σ a w G G'} (h:Rel E σ a w G) (r:Nat) (hnp:notPark r) (rows:List Row) (q:Path) (hi:GInj G') (hr:GRng E w G') (hG:∀ r',notPark r'→r'≠r→G' r'=G r') (hq:∀ p,¬ q <+: p→G' r p=G r p)
  (hs:∀ t,r=slot t→RelRows E G (fun r=>(σ.get r).ver) w (G' r) rows (a.tmps.getD t undef))
  (hb:∀ t,r=box t→RelBox E G (fun r=>(σ.get r).ver) w (G' r) rows∧(E.nt≤t→G' r []=E.xb t))
  (hx:∀ t,r=ext t→RelRows E G (fun r=>(σ.get r).ver) w (G' r) rows (E.x t)) (hhas:σ.has r=true) :
  Rel E (σ.set r ⟨bump q (σ.get r).ver,rows⟩) a w G'∧Good G (fun r=>(σ.get r).ver) G' (fun r'=>((σ.set r ⟨bump q (σ.get r).ver,rows⟩).get r').ver) :=
 h.rootV r hnp rows _ hi hr hG (fun p=>⟨bump_le _ _ _,fun hb=>hq p (bump_eq hb)⟩) hs hb hx hhas
/-- The ghost behind a move: what lay under (r, p) lies under (y, d). -/
def tkG (G:GG) (r:Nat) (p:Path) (y:Nat) (d:Path):GG:=fun r' q =>
 if r'=y∧d <+: q then G r (p ++ q.drop d.length) else if r'=r∧p <+: q then none else G r' q
theorem tkG_some {G:GG} {r p y d r' q z} (h:tkG G r p y d r' q=some z) :
  (r'=y∧(∃ q',q=d ++ q'∧G r (p ++ q')=some z))∨(¬ (r'=r∧p <+: q)∧¬ (r'=y∧d <+: q)∧G r' q=some z):=by
 unfold tkG at h
 split at h
 ·rename_i h2
  obtain ⟨q',rfl⟩:=h2.2
  exact .inl ⟨h2.1,q',rfl,by simpa using h⟩
 ·split at h
  ·simp at h
  ·exact .inr ⟨‹_›,‹_›,h⟩
theorem tkG_inj {G:GG} (h:GInj G) (r p y d):GInj (tkG G r p y d):=by
 intro r1 q1 r2 q2 ad c ad' c' h1 h2 hb
 rcases tkG_some h1 with ⟨e1,p1,rfl,g1⟩ | ⟨n1,m1,g1⟩ <;> rcases tkG_some h2 with ⟨e2,p2,rfl,g2⟩ | ⟨n2,m2,g2⟩
 ·have:=(h _ _ _ _ _ _ _ _ g1 g2 hb).2
  rw [List.append_cancel_left_eq] at this
  exact ⟨e1.trans e2.symm,by rw [this]⟩
 ·obtain ⟨e,ep⟩:=h _ _ _ _ _ _ _ _ g1 g2 hb
  exact absurd ⟨e.symm,ep ▸ List.prefix_append _ _⟩ n2
 ·obtain ⟨e,ep⟩:=h _ _ _ _ _ _ _ _ g1 g2 hb
  exact absurd ⟨e,ep ▸ List.prefix_append _ _⟩ n1
 ·exact h _ _ _ _ _ _ _ _ g1 g2 hb
theorem tkG_rng {E w} {G:GG} (h:GRng E w G) (r p y d):GRng E w (tkG G r p y d):=by
 intro r1 q1 ad c h1
 rcases tkG_some h1 with ⟨e1,p1,rfl,g1⟩ | ⟨n1,m1,g1⟩
 ·exact h _ _ _ _ g1
 ·exact h _ _ _ _ g1
theorem tkG_in (G:GG) (r p y d q):tkG G r p y d y (d ++ q)=G r (p ++ q):=by
 unfold tkG
 rw [if_pos ⟨rfl,List.prefix_append _ _⟩]
 simp
theorem tkG_out {G:GG} {r p y d r' q} (h1:¬ (r'=y∧d <+: q)) (h2:¬ (r'=r∧p <+: q)):tkG G r p y d r' q=G r' q:=by
 unfold tkG
 rw [if_neg h1,if_neg h2]
theorem runRd {α:Type} {φ:Sems} {r:Nat} {k:Ct→Pr α} {σ:St} {L:Log}:(Pr.rd r k).run φ σ L=(k (σ.get r)).run φ σ ((r,.rd) :: L):=rfl
theorem runHdr {α:Type} {φ:Sems} {r:Nat} {p:Path} {g:Ct→Hd} {hg:HdOk p g} {k:Hd→Pr α} {σ:St} {L:Log}:(Pr.hdr r p g hg k).run φ σ L=(k (g (σ.get r))).run φ σ ((r,.hd p) :: L):=rfl
theorem run_guard {α:Type} {φ:Sems} {b:Bool} {k:Pr α} {σ:St} {L:Log} {y} (h:(guardP b k).run φ σ L=some y):b=true∧k.run φ σ L=some y:=by
 cases b with
 | true=>exact ⟨rfl,h⟩
 | false=>simp [guardP,Pr.run] at h
theorem run_bind {α β:Type} {φ:Sems} {p:Pr α} {g:α→Pr β} {σ:St} {L:Log} {y} (h:(p.bind g).run φ σ L=some y) :
  ∃ a σ' L',p.run φ σ L=some (a,σ',L')∧(g a).run φ σ' L'=some y:=by
 induction p generalizing σ L with
 | ret a=>exact ⟨a,σ,L,rfl,h⟩
 | rd r k ih=>exact ih _ h
 | wr r c k ih =>
  simp only [Pr.bind,Pr.run] at h ⊢
  cases hs:σ.has r with
  | false=>simp [hs] at h
  | true=>simp only [hs,cond_true] at h ⊢;exact ih h
 | hdr r p g hg k ih=>exact ih _ h
 | up r q u k ih =>
  simp only [Pr.bind,Pr.run] at h ⊢
  cases hs:(σ.has r&&cellOk (σ.get r).rows q) with
  | false=>simp [hs] at h
  | true=>simp only [hs,cond_true] at h ⊢;exact ih h
 | tp r k ih=>exact ih _ h
 | mv r q u k ih =>
  simp only [Pr.bind,Pr.run] at h ⊢
  cases hs:(σ.has r&&cellOk (σ.get r).rows q) with
  | false=>simp [hs] at h
  | true=>simp only [hs,cond_true] at h ⊢;exact ih h
 | call f a k ih =>
  simp only [Pr.bind,Pr.run] at h ⊢
  rcases φ.det f a with hd | ⟨rs,outs,hd⟩
  ·rw [hd] at h;cases h
  ·rw [hd] at h
   rw [hd]
   exact ih _ _ h
 | ask f k ih=>exact ih _ h
 | br b x y ihx ihy =>
  cases b with
  | true=>exact ihx h
  | false=>exact ihy h
 | fail=>simp [Pr.bind,Pr.run] at h
theorem run_ret {α:Type} {φ:Sems} {a:α} {σ:St} {L:Log} {y} (h:(Pr.ret a).run φ σ L=some y):y=(a,σ,L):=(Option.some.inj h).symm
theorem run_fail {α:Type} {φ:Sems} {σ:St} {L:Log} {y} (h:(Pr.fail:Pr α).run φ σ L=some y):False:=by simp [Pr.run] at h
theorem run_wr {α:Type} {φ:Sems} {r:Nat} {c:Ct} {k:Pr α} {σ:St} {L:Log} {y} (h:(Pr.wr r c k).run φ σ L=some y):σ.has r=true∧k.run φ (σ.set r c) ((r,.wr) :: L)=some y:=by
 simp only [Pr.run] at h
 cases hs:σ.has r with
 | false=>simp [hs] at h
 | true=>simp only [hs,cond_true] at h;exact ⟨rfl,h⟩
theorem run_mv {α:Type} {φ:Sems} {r:Nat} {q:Path} {u:T} {k:Pr α} {σ:St} {L:Log} {y} (h:(Pr.mv r q u k).run φ σ L=some y):σ.has r=true∧k.run φ (σ.set r ⟨bumpD q (σ.get r).ver,rowsSet (σ.get r).rows ((rowsGet (σ.get r).rows q).reHd u) q⟩) ((r,.dn q) :: L)=some y:=by
 simp only [Pr.run] at h
 cases hs:(σ.has r&&cellOk (σ.get r).rows q) with
 | false=>simp [hs] at h
 | true =>
  simp only [hs,cond_true] at h
  simp only [Bool.and_eq_true] at hs
  exact ⟨hs.1,h⟩
theorem run_up {α:Type} {φ:Sems} {r:Nat} {q:Path} {u:T} {k:Pr α} {σ:St} {L:Log} {y} (h:(Pr.up r q u k).run φ σ L=some y):σ.has r=true∧k.run φ (σ.set r ⟨bump q (σ.get r).ver,rowsSet (σ.get r).rows u q⟩) ((r,.up q) :: L)=some y:=by
 simp only [Pr.run] at h
 cases hs:(σ.has r&&cellOk (σ.get r).rows q) with
 | false=>simp [hs] at h
 | true =>
  simp only [hs,cond_true] at h
  simp only [Bool.and_eq_true] at hs
  exact ⟨hs.1,h⟩
/-! ### paths that are there -/
theorem at_of_ok:∀ (p:Path) (t:T),t.okAt p=true→t.at p=some (t.get p)
 | [],t,_=>by cases t <;> rfl
 | [j],t,h=>by cases t <;> simp [T.okAt] at h
 | j :: k :: q,t,h=>by
  cases t with
  | arr m n f =>
   simp only [T.okAt,Bool.and_eq_true] at h
   have hb:(Nat.blt j n&&Nat.blt k m)=true:=by simp only [Bool.and_eq_true];exact h.1
   simp only [T.at,hb,cond_true,T.get]
   exact at_of_ok q _ h.2
  | _=>simp [T.okAt] at h
theorem put_of_ok:∀ (p:Path) (t u:T),t.okAt p=true→t.put p u=some (t.set p u)
 | [],t,u,_=>by cases t <;> rfl
 | [j],t,u,h=>by cases t <;> simp [T.okAt] at h
 | j :: k :: q,t,u,h=>by
  cases t with
  | arr m n f =>
   simp only [T.okAt,Bool.and_eq_true] at h
   have hb:(Nat.blt j n&&Nat.blt k m)=true:=by simp only [Bool.and_eq_true];exact h.1
   simp only [T.put,hb,cond_true,T.set]
   rw [put_of_ok q _ u h.2]
   rfl
  | _=>simp [T.okAt] at h
theorem rows_of_ok {rows:List Row} {p:Path} (h:rowsOk rows p=true):rowsAt rows p=some (rowsGet rows p)∧∀ u,rowsPut rows u p=some (rowsSet rows u p):=by
 match p with
 | []=>simp [rowsOk] at h
 | [_]=>simp [rowsOk] at h
 | i :: k :: q =>
  simp only [rowsOk] at h
  split at h
  ·rename_i g cs hi
   split at h
   ·rename_i t hk
    have hc:rowsCell rows i k=t:=by simp only [rowsCell,hi,hk]
    refine ⟨?_,fun u=>?_⟩
    ·simp only [rowsAt,hi,hk,rowsGet,hc]
     exact at_of_ok q t h
    ·simp only [rowsPut,hi,hk,rowsSet,hc]
     rw [put_of_ok q t u h]
   ·cases h
  ·cases h
theorem arr_of {t:T} (h:t.isArr=true):t=.arr t.wd t.ln t.fn:=by
 cases t with
 | arr m n f=>rfl
 | _=>cases h
theorem run_arrAt {α:Type} {φ:Sems} {rows:List Row} {p:Path} {k:Nat→Nat→(Nat→Nat→T)→Pr α} {σ:St} {L:Log} {y} (h:(arrAt rows p k).run φ σ L=some y) :
  ∃ m n f,rowsAt rows p=some (.arr m n f)∧(∀ u,rowsPut rows u p=some (rowsSet rows u p))∧(k m n f).run φ σ L=some y:=by
 replace h:=run_guard h
 obtain ⟨hb,h2⟩:=h
 simp only [Bool.and_eq_true] at hb
 obtain ⟨h3,h4⟩:=rows_of_ok hb.1
 exact ⟨_,_,_,by rw [h3];congr 1;exact arr_of hb.2,h4,h2⟩
abbrev St.V (σ:St):Nat→Ver:=fun r=>(σ.get r).ver
/-- TAKING: the cell's content is in flight at park x under [i, k]; what else was in flight there is still. -/
theorem take_sound {E σ a w G} (h:Rel E σ a w G) (φ:Sems) (x i k:Nat) (hp:∀ q,G (park x) (i :: k :: q)=none) {c:C} {v:Value} (hc:RelC E G σ.V w noG c v)
  {L c' σ' L'} (hrun:(takeC c).run φ σ L=some (c',σ',L')) :
  ∃ G',Rel E σ' a w G'∧RelC E G' σ'.V w (fun q=>G' (park x) (i :: k :: q)) c' v∧Good G σ.V G' σ'.V∧(∀ y q,¬ (y=x∧[i,k] <+: q)→G' (park y) q=G (park y) q):=by
 have triv:(c',σ',L')=(c,σ,L)→∃ G',Rel E σ' a w G'∧RelC E G' σ'.V w (fun q=>G' (park x) (i :: k :: q)) c' v∧Good G σ.V G' σ'.V∧(∀ y q,¬ (y=x∧[i,k] <+: q)→G' (park y) q=G (park y) q):=by
  rintro ⟨⟩
  refine ⟨G,h,?_,Good.refl _ _,fun _ _ _=>rfl⟩
  have:(fun q=>G (park x) (i :: k :: q))=noG:=funext hp
  rw [this]
  exact hc
 cases c with
 | tr o t=>exact triv (run_ret hrun)
 | pt y=>exact triv (run_ret hrun)
 | fn f caps=>exact triv (run_ret hrun)
 | dead=>exact triv (run_ret hrun)
 | ref r ver p m s n =>
  obtain ⟨hr4,hrun⟩ | ⟨hr4,hrun⟩:(Nat.beq (r % 4) 2=true∧(Pr.ret (C.ref r ver p m s n)).run φ σ L=some (c',σ',L'))∨(Nat.beq (r % 4) 2=false∧(Pr.rd r fun ct=>arrAt ct.rows p fun m' n' f=>guardP (Nat.beq (ct.ver p) ver&&(Nat.beq s 0&&(Nat.ble n n'&&Nat.beq m m'))) (.up r p .hole (.ret (.tr true (.arr m n f))))).run φ σ L=some (c',σ',L')):=by
   simp only [takeC] at hrun
   cases h4:Nat.beq (r % 4) 2 with
   | true=>rw [h4] at hrun;exact .inl ⟨rfl,hrun⟩
   | false=>rw [h4] at hrun;exact .inr ⟨rfl,hrun⟩
  ·exact triv (run_ret hrun)
  obtain ⟨A,cap,rfl,hn,⟨hnp,hpne⟩,hver,hval⟩:=hc
  simp only [runRd] at hrun
  ·obtain ⟨m',n',f,hat,hputs,hrun1⟩:=run_arrAt hrun
   replace hrun1:=run_guard hrun1
   obtain ⟨hb,hrun2⟩:=hrun1
   simp only [Bool.and_eq_true] at hb
   obtain ⟨hb1,hb2,hb3,hb4⟩:=hb
   have e1:=beq_eq hb1;have e2:=beq_eq hb2;have e3:=Nat.le_of_ble_eq_true hb3;have e4:=beq_eq hb4
   subst e2;subst e4
   ·have hput:=hputs .hole
    replace hrun2:=run_up hrun2
    generalize rowsSet (σ.get r).rows .hole p=rows at hrun2 hput
    obtain ⟨hhas,hrun⟩:=hrun2
    obtain ⟨rfl,rfl,rfl⟩:c'=.tr true (.arr m n f)∧σ'=σ.set r ⟨bump p (σ.get r).ver,rows⟩∧L'=(r,.up p) :: (r,.rd) :: L:=by
     have:=run_ret hrun
     simp at this
     exact this
    have hGin:GInj (tkG G r p (park x) [i,k]):=tkG_inj h.inj _ _ _ _
    have hGr:GRng E w (tkG G r p (park x) [i,k]):=tkG_rng h.rng _ _ _ _
    have hother:∀ r',notPark r'→r'≠r→tkG G r p (park x) [i,k] r'=G r':=fun r' h1 h2=>funext fun q=>tkG_out (fun e=>np_ne_park h1 x e.1) (fun e=>h2 e.1)
    have hin:∀ q,¬ p <+: q→tkG G r p (park x) [i,k] r q=G r q:=fun q hq=>tkG_out (fun e=>np_ne_park hnp x e.1) (fun e=>hq e.2)
    have hown:∃ v',RelOwn w (.arr m n' f) (fun q=>G r (p ++ q)) v':=by
     obtain ⟨t,rfl | rfl | rfl⟩:=np_cases hnp
     ·exact (h.slots t).at hat
     ·exact (h.box' t).at hat
     ·exact (h.exts t).at hat
    obtain ⟨h1,h2⟩:=h.root r hnp rows p hGin hGr hother hin
     (fun t e=>by
      subst e
      exact (h.slots t).hole hput hin)
     (fun t e=>by
      subst e
      exact ⟨(h.box' t).hole hput hin,fun ht=>(hin [] (by simpa using hpne)).trans (h.xbox t ht)⟩)
     (fun t e=>by
      subst e
      exact (h.exts t).hole hput hin) hhas
    refine ⟨_,h1,?_,h2,fun y q hq=>?_⟩
    ·have hgh:(fun q=>tkG G r p (park x) [i,k] (park x) (i :: k :: q))=fun q=>G r (p ++ q):=by
      funext q
      exact tkG_in G r p (park x) [i,k] q
     rw [hgh]
     obtain ⟨v',hv'⟩:=hown
     rcases hv' with ⟨g0,hn0,rfl⟩ | ⟨b,off,cap',cs,e,g0,rfl,hn',hh1,hh2,hh3⟩ <;> have g0':=g0 <;> simp only [List.append_nil] at g0'
     ·rcases hval e1 with ⟨_,rfl,_,rfl,rfl⟩ | ⟨b,off,c,g1,_⟩
      ·exact .inl ⟨g0,rfl,rfl⟩
      ·rw [g0'] at g1;cases g1
     ·rcases hval e1 with ⟨g1,_⟩ | ⟨b',off',c,g1,h3,_⟩
      ·rw [g0'] at g1;cases g1
      ·rw [g0'] at g1
       obtain ⟨rfl,rfl⟩:=h3 rfl
       cases g1
       exact .inr ⟨b,off,cap,cs,e,g0,rfl,⟨hn,hn'.2⟩,hh1,hh2,fun j hj=>hh3 j (by omega)⟩
    ·exact tkG_out (fun e=>hq ⟨park_inj e.1,e.2⟩) (fun e=>np_ne_park hnp y e.1.symm)
/-- A way of taking. -/
def TakeOk (φ:Sems) (tk:C→Pr C):Prop:=∀ {E:Env} {σ:St} {a:Act} {w:World} {G:GG},Rel E σ a w G→∀ (x i k:Nat),(∀ q,G (park x) (i :: k :: q)=none)→∀ {c:C} {v:Value},RelC E G σ.V w noG c v →
  ∀ {L:Log} {c':C} {σ':St} {L':Log},(tk c).run φ σ L=some (c',σ',L') →
  ∃ G',Rel E σ' a w G'∧RelC E G' σ'.V w (fun q=>G' (park x) (i :: k :: q)) c' v∧Good G σ.V G' σ'.V∧(∀ y q,¬ (y=x∧[i,k] <+: q)→G' (park y) q=G (park y) q)
theorem take_ok (φ:Sems):TakeOk φ takeC:=fun h x i k hp _ _ hc _ _ _ _ hrun=>take_sound h φ x i k hp hc hrun
theorem takeS_ok (φ:Sems):TakeOk φ takeS:=by
 intro E σ a w G h x i k hp c v hc L c' σ' L' hrun
 have triv:(c',σ',L')=(c,σ,L)→∃ G',Rel E σ' a w G'∧RelC E G' σ'.V w (fun q=>G' (park x) (i :: k :: q)) c' v∧Good G σ.V G' σ'.V∧(∀ y q,¬ (y=x∧[i,k] <+: q)→G' (park y) q=G (park y) q):=by
  rintro ⟨⟩
  refine ⟨G,h,?_,Good.refl _ _,fun _ _ _=>rfl⟩
  have:(fun q=>G (park x) (i :: k :: q))=noG:=funext hp
  rw [this]
  exact hc
 cases c with
 | ref r ver p m s n =>
  simp only [takeS] at hrun
  cases hb:(Nat.beq (r % 4) 1&&Nat.blt 2 p.length) with
  | true =>
   rw [hb] at hrun
   exact triv (run_ret hrun)
  | false =>
   rw [hb] at hrun
   exact take_sound h φ x i k hp hc hrun
 | tr o t=>exact triv (run_ret hrun)
 | pt y=>exact triv (run_ret hrun)
 | fn f caps=>exact triv (run_ret hrun)
 | dead=>exact triv (run_ret hrun)
theorem tkFor_ok (φ:Sems) (x:Pt):TakeOk φ (tkFor x):=by
 cases x with
 | pim m g=>exact take_ok φ
 | ptr r ver p m j k=>cases p with
  | nil=>exact takeS_ok φ
  | cons y p=>exact take_ok φ
end Go.Mach
namespace Go.Mach
/-- The state speaks truly; nothing is in flight. -/
def S (E:Env) (σ:St) (a:Act) (w:World):Prop:=∃ G,Rel E σ a w G∧∀ y,G (park y)=noG
theorem Rel.toS {E σ a w G} (h:Rel E σ a w G):S E σ a w:=by
 classical
 refine ⟨fun r=>if notPark r then G r else noG,h.parks _ (fun r hr=>by simp [hr]) ?_ ?_,fun y=>by simp [not_np_park y]⟩
 ·intro r p r' p' ad c ad' c' h1 h2 hb
  by_cases e:notPark r <;> by_cases e':notPark r' <;> simp [e,e',noG] at h1 h2
  exact h.inj _ _ _ _ _ _ _ _ h1 h2 hb
 ·intro r p ad c h1
  by_cases e:notPark r <;> simp [e,noG] at h1
  exact h.rng _ _ _ _ h1
theorem mapI_get {α β:Type} (g:Nat→α→β) (l:List α) (i j:Nat):(mapI g i l)[j]?=(l[j]?).map (g (i+j)):=by
 induction l generalizing i j with
 | nil=>simp [mapI]
 | cons a l ih =>
  cases j with
  | zero=>simp [mapI]
  | succ j =>
   simp only [mapI,List.getElem?_cons_succ,ih]
   congr 2
   omega
theorem mapI_length {α β:Type} (g:Nat→α→β) (l:List α) (i:Nat):(mapI g i l).length=l.length:=by
 induction l generalizing i with
 | nil=>rfl
 | cons a l ih=>simp [mapI,ih]
theorem RelC.view {E G V w r c v} {pp:Path} (hnp:notPark r) (hpp:pp≠[]) (h:RelC E G V w (fun q=>G r (pp ++ q)) c v):RelC E G V w noG (viewC r (V r) pp c) v:=by
 cases c with
 | tr o t =>
  cases o with
  | false=>exact h
  | true =>
   cases t with
   | arr m n f =>
    rcases h with ⟨g0,rfl,rfl⟩ | ⟨b,off,cap,cs,e,g0,rfl,hn,_⟩
    ·exact ⟨none,0,rfl,Nat.le_refl _,⟨hnp,hpp⟩,Nat.le_refl _,fun _=>.inl ⟨by simpa using g0,rfl,rfl,rfl,rfl⟩⟩
    ·exact ⟨_,cap,rfl,hn.1,⟨hnp,hpp⟩,Nat.le_refl _,fun _=>.inr ⟨b,off,cap,by simpa using g0,fun _=>⟨rfl,rfl⟩,fun _=>by simp⟩⟩
   | lent m n=>exact RelOwn.one h
   | _=>exact h
 | _=>exact h
theorem RelCs.view {E G V w r i cs vs} (hnp:notPark r) (h:RelCs E G V w (fun k q=>G r (i :: k :: q)) cs vs):RelCs E G V w (fun _=>noG) (mapI (fun k c=>viewC r (V r) [i,k] c) 0 cs) vs:=by
 refine ⟨by rw [mapI_length];exact h.1,fun k c hk=>?_⟩
 rw [mapI_get,Nat.zero_add] at hk
 obtain ⟨c0,h0,rfl⟩:=Option.map_eq_some_iff.1 hk
 obtain ⟨u,hu,hr⟩:=h.2 k c0 h0
 exact ⟨u,hu,hr.view (pp:=[i,k]) hnp (by simp)⟩
theorem RelRow.view {E G V w r i row v} (hnp:notPark r) (h:RelRow E G V w (fun k q=>G r (i :: k :: q)) row v):RelRow E G V w (fun _=>noG) (row.1,mapI (fun k c=>viewC r (V r) [i,k] c) 0 row.2) v:=by
 obtain ⟨ag,cs⟩:=row
 cases ag with
 | true=>obtain ⟨vs,e,hc⟩:=h;exact ⟨vs,e,hc.view hnp⟩
 | false=>match cs,h with
  | [],hx=>exact hx
  | [c],hx=>exact RelC.view (pp:=[i,0]) hnp (by simp) hx
theorem RelRows.view {E G V w r rows v} (hnp:notPark r) (h:RelRows E G V w (G r) rows v):RelRows E G V w noG (viewRows r (V r) rows) v:=by
 match rows,h with
 | [],_=>trivial
 | [row],h=>exact RelRow.view (i:=0) (row:=row) hnp h
 | a :: b :: l,⟨vs,e,hs,hh⟩ =>
  refine ⟨vs,e,by simp only [viewRows,mapI,List.length_cons,mapI_length] at *;exact hs,fun i row hi=>?_⟩
  have hi':(viewRows r (V r) (a :: b :: l))[i]?=some row:=hi
  rw [viewRows,mapI_get,Nat.zero_add] at hi'
  obtain ⟨row0,h0,rfl⟩:=Option.map_eq_some_iff.1 hi'
  obtain ⟨u,hu,hr⟩:=hh i row0 h0
  exact ⟨u,hu,hr.view hnp⟩
theorem ofCell_rel {E G V w} (v:Value) (h:v.oneCell'=true):RelC E G V w noG (ofCell v) v:=by
 unfold ofCell
 split
 ·rfl
 ·rfl
 ·rfl
 ·exact .inl ⟨rfl,rfl,rfl⟩
 ·exact h
theorem ofValue_rel {E G V w} {v:Value} {row:Row} (h:ofValue v=some row):RelRow E G V w (fun _=>noG) row v:=by
 unfold ofValue at h
 split at h
 ·rename_i cs
  cases hall:(cs.toList.all (·.oneCell')) with
  | false=>simp [hall] at h
  | true =>
   simp only [hall,cond_true,Option.some.injEq] at h
   subst h
   refine ⟨cs,rfl,by simp,fun k c hk=>?_⟩
   simp only [List.getElem?_map] at hk
   obtain ⟨u,hu,rfl⟩:=Option.map_eq_some_iff.1 hk
   exact ⟨u,by simpa using hu,ofCell_rel u (List.all_eq_true.1 hall u (List.mem_of_getElem? hu))⟩
 ·cases hall:v.oneCell' with
  | false=>simp [hall] at h
  | true =>
   simp only [hall,cond_true,Option.some.injEq] at h
   subst h
   exact ofCell_rel v hall
theorem peek_sound {E σ a w G} (h:Rel E σ a w G) {φ x L rows σ' L'} (hr:(peek x).run φ σ L=some (rows,σ',L')):σ'=σ∧RelRows E G σ.V w noG rows (a.eval x):=by
 cases x with
 | tmp t =>
  have:=run_ret (φ:=φ) hr
  simp at this
  obtain ⟨rfl,rfl,rfl⟩:=this
  exact ⟨rfl,(h.slots t).view (np_slot t)⟩
 | const v =>
  simp only [peek] at hr
  cases hv:ofValue v with
  | none=>rw [hv] at hr;exact (run_fail hr).elim
  | some r =>
   rw [hv] at hr
   have:=run_ret hr
   simp at this
   obtain ⟨rfl,rfl,rfl⟩:=this
   exact ⟨rfl,ofValue_rel hv⟩
 | func f =>
  have:=run_ret (φ:=φ) hr
  simp at this
  obtain ⟨rfl,rfl,rfl⟩:=this
  exact ⟨rfl,⟨#[],rfl,rfl,fun i x hi=>by simp at hi⟩⟩
 | global g=>exact (run_fail hr).elim
theorem peekT_sound {E σ a w G} (h:Rel E σ a w G) {φ x L rows σ' L'} (hr:(peekT x).run φ σ L=some (rows,σ',L')):σ'=σ∧RelRows E G σ.V w noG rows (a.eval x):=by
 cases x with
 | tmp t =>
  have:(peek (.tmp t)).run φ σ L=some (rows,σ',(slot t,.rd) :: L):=by
   have e:some (viewRows (slot t) (σ.get (slot t)).ver (σ.get (slot t)).rows,σ,(slot t,Acc.tp) :: L)=some (rows,σ',L'):=hr
   obtain ⟨rfl,rfl,_⟩:_=rows∧σ=σ'∧_=L':=by simpa only [Option.some.injEq,Prod.mk.injEq] using e
   rfl
  exact peek_sound h this
 | const v=>exact peek_sound h hr
 | func f=>exact peek_sound h hr
 | global g=>exact peek_sound h hr
theorem peekRow_sound {E σ a w G} (h:Rel E σ a w G) {φ x L row σ' L'} (hr:(peekRow x).run φ σ L=some (row,σ',L')):σ'=σ∧RelRow E G σ.V w (fun _=>noG) row (a.eval x):=by
 obtain ⟨rows,σ1,L1,h1,h2⟩:=run_bind hr
 obtain ⟨rfl,hrel⟩:=peek_sound h h1
 match rows,h2,hrel with
 | [],h2,_=>exact (run_fail h2).elim
 | [r],h2,hrel =>
  have:=run_ret h2
  simp at this
  obtain ⟨rfl,rfl,rfl⟩:=this
  exact ⟨rfl,hrel⟩
 | _ :: _ :: _,h2,_=>exact (run_fail h2).elim
theorem peek1_sound {E σ a w G} (h:Rel E σ a w G) {φ x L c σ' L'} (hr:(peek1 x).run φ σ L=some (c,σ',L')):σ'=σ∧RelC E G σ.V w noG c (a.eval x):=by
 obtain ⟨row,σ1,L1,h1,h2⟩:=run_bind hr
 obtain ⟨rfl,hrel⟩:=peekRow_sound h h1
 match row,h2,hrel with
 | (true,_),h2,_=>exact (run_fail h2).elim
 | (false,[]),h2,_=>exact (run_fail h2).elim
 | (false,[c']),h2,hrel =>
  have:=run_ret h2
  simp at this
  obtain ⟨rfl,rfl,rfl⟩:=this
  exact ⟨rfl,hrel⟩
 | (false,_ :: _ :: _),h2,_=>exact (run_fail h2).elim
theorem put_sound {E σ a w G} (h:Rel E σ a w G) (x:Nat) {φ dst L rows v σ' L' u} (hr:RelRows E G σ.V w (G (park x)) rows v) (hrun:(put dst rows).run φ σ L=some (u,σ',L')):S E σ' (a.put dst v) w:=by
 cases dst with
 | none =>
  have:=run_ret hrun
  simp at this
  obtain ⟨rfl,rfl⟩:=this
  exact h.toS
 | some d =>
  obtain ⟨hh,h2⟩:=run_wr hrun
  have:=run_ret h2
  simp at this
  obtain ⟨rfl,rfl⟩:=this
  exact (h.put d x hh hr).toS
/-- A value that owns nothing. -/
theorem put_sound0 {E σ a w} (h:S E σ a w) {φ dst L rows v σ' L' u} (hr:∀ G,Rel E σ a w G→(∀ y,G (park y)=noG)→RelRows E G σ.V w noG rows v) (hrun:(put dst rows).run φ σ L=some (u,σ',L')):S E σ' (a.put dst v) w:=by
 obtain ⟨G,hG,hp⟩:=h
 exact put_sound hG 0 (by rw [hp 0];exact hr G hG hp) hrun
theorem takeCells_sound {E a w} (φ:Sems) {tk:C→Pr C} (htk:TakeOk φ tk) (y i:Nat) (vs:Array Value):∀ (l:List C) (k0:Nat) (σ:St) (G:GG),Rel E σ a w G →
  (∀ (j:Nat) c,l[j]?=some c→∃ u,vs[k0+j]?=some u∧RelC E G σ.V w noG c u)→(∀ k,k0≤k→∀ q,G (park y) (i :: k :: q)=none) →
  ∀ {L l' σ' L'},(mapP tk l).run φ σ L=some (l',σ',L') →
  ∃ G',Rel E σ' a w G'∧l'.length=l.length∧(∀ (j:Nat) c,l'[j]?=some c→∃ u,vs[k0+j]?=some u∧RelC E G' σ'.V w (fun q=>G' (park y) (i :: (k0+j) :: q)) c u) ∧
   Good G σ.V G' σ'.V∧(∀ z q,¬ (z=y∧∃ k,k0≤k∧[i,k] <+: q)→G' (park z) q=G (park z) q)
 | [],k0,σ,G,h,_,_,L,l',σ',L',hrun=>by
  have:=run_ret hrun
  simp at this
  obtain ⟨rfl,rfl,rfl⟩:=this
  exact ⟨G,h,rfl,fun j c hj=>by simp at hj,Good.refl _ _,fun _ _ _=>rfl⟩
 | c :: l,k0,σ,G,h,hc,hp,L,l',σ',L',hrun=>by
  obtain ⟨c',σ1,L1,h1,h2⟩:=run_bind hrun
  obtain ⟨l1,σ2,L2,h3,h4⟩:=run_bind h2
  have:=run_ret h4
  simp at this
  obtain ⟨rfl,rfl,rfl⟩:=this
  obtain ⟨u0,hu0,hr0⟩:=hc 0 c rfl
  obtain ⟨G1,hG1,hc1,hgood1,hpk1⟩:=htk h y i k0 (hp k0 (Nat.le_refl _)) hr0 h1
  obtain ⟨G2,hG2,hl2,hc2,hgood2,hpk2⟩:=takeCells_sound φ htk y i vs l (k0+1) σ1 G1 hG1
   (fun j c hj=>by
    obtain ⟨u,hu,hr⟩:=hc (j+1) c (by simpa using hj)
    exact ⟨u,by rw [← hu];congr 1;omega,hr.good hgood1⟩)
   (fun k hk q=>by
    rw [hpk1 y _ (by
     rintro ⟨_,hpre⟩
     rw [List.cons_prefix_cons,List.cons_prefix_cons] at hpre
     omega)]
    exact hp k (by omega) q) h3
  refine ⟨G2,hG2,by simp [hl2],fun j c hj=>?_,hgood1.trans hgood2,fun z q hz=>?_⟩
  ·cases j with
   | zero =>
    simp at hj
    subst hj
    refine ⟨u0,hu0,?_⟩
    have:(fun q=>G2 (park y) (i :: (k0+0) :: q))=fun q=>G1 (park y) (i :: k0 :: q):=by
     funext q
     refine hpk2 y _ ?_
     rintro ⟨_,k,hk,hpre⟩
     rw [List.cons_prefix_cons,List.cons_prefix_cons] at hpre
     omega
    rw [this]
    exact hc1.good hgood2
   | succ j =>
    obtain ⟨u,hu,hr⟩:=hc2 j c (by simpa using hj)
    have e:k0+1+j=k0+(j+1):=by omega
    rw [e] at hu hr
    exact ⟨u,hu,hr⟩
  ·rw [hpk2 z q (fun ⟨e,k,hk,hpre⟩=>hz ⟨e,k,by omega,hpre⟩)]
   exact hpk1 z q fun ⟨e,hpre⟩=>hz ⟨e,k0,Nat.le_refl _,hpre⟩
/-- A row is taken: it is in flight at park y. -/
theorem takeRowT_sound {E σ a w G} (h:Rel E σ a w G) (φ:Sems) {tk:C→Pr C} (htk:TakeOk φ tk) (y:Nat) (hp:G (park y)=noG) {row row':Row} {v:Value} {L σ' L'} (hrel:RelRow E G σ.V w (fun _=>noG) row v)
  (hrun:(takeRowT tk row).run φ σ L=some (row',σ',L')) :
  ∃ G',Rel E σ' a w G'∧RelRow E G' σ'.V w (fun k q=>G' (park y) (0 :: k :: q)) row' v∧row'.2.length=row.2.length∧Good G σ.V G' σ'.V∧∀ z,z≠y→G' (park z)=G (park z):=by
 obtain ⟨l',σ1,L1,h1,h2⟩:=run_bind hrun
 have:=run_ret h2
 simp at this
 obtain ⟨rfl,rfl,rfl⟩:=this
 by_cases hne:row.2=[]
 ·obtain ⟨ag,cs⟩:=row
  simp only at hne h1
  subst hne
  have:=run_ret h1
  simp at this
  obtain ⟨rfl,rfl,rfl⟩:=this
  refine ⟨G,h,?_,rfl,Good.refl _ _,fun _ _=>rfl⟩
  cases ag with
  | false=>exact hrel
  | true=>obtain ⟨vs,e,hc⟩:=hrel;exact ⟨vs,e,hc.1,fun k c hk=>by simp at hk⟩
 ·obtain ⟨vs,hc,back⟩:=RelRow.cs (ag:=row.1) (cs:=row.2) hrel hne
  obtain ⟨G',hG',hl,hc',hgood,hpk⟩:=takeCells_sound φ htk y 0 vs row.2 0 σ G h (fun j c hj=>by
   obtain ⟨u,hu,hr⟩:=hc.2 j c hj
   exact ⟨u,by rw [← hu];congr 1;omega,hr⟩) (fun k _ q=>by rw [hp];rfl) h1
  refine ⟨G',hG',?_,hl,hgood,fun z hz=>funext fun q=>hpk z q fun e=>hz e.1⟩
  have hcs:RelCs E G' σ'.V w (fun k q=>G' (park y) (0 :: k :: q)) l' vs:=⟨by rw [hl];exact hc.1,fun k c hk=>by
   obtain ⟨u,hu,hr⟩:=hc' k c hk
   rw [Nat.zero_add] at hu hr
   exact ⟨u,hu,hr⟩⟩
  exact back _ _ _ _ _ _ hl hcs
theorem takeRowC_sound {E σ a w G} (h:Rel E σ a w G) (φ:Sems) (y:Nat) (hp:G (park y)=noG) {row row':Row} {v:Value} {L σ' L'} (hrel:RelRow E G σ.V w (fun _=>noG) row v)
  (hrun:(takeRowC row).run φ σ L=some (row',σ',L')) :
  ∃ G',Rel E σ' a w G'∧RelRow E G' σ'.V w (fun k q=>G' (park y) (0 :: k :: q)) row' v∧row'.2.length=row.2.length∧Good G σ.V G' σ'.V∧∀ z,z≠y→G' (park z)=G (park z) :=
 takeRowT_sound h φ (take_ok φ) y hp hrel hrun
end Go.Mach
namespace Go.Mach
/-- What is shown of an operation: where the machine's program runs, the operation's wp holds. -/
def OpOk (P:Program) (φ:Sems) (o:Oper) (p:Pr Unit):Prop:=∀ E σ a w L σ' L',S E σ a w→p.run φ σ L=some ((),σ',L')→∀ K Q,(∀ a' w',S E σ' a' w'→K a' w')→o.wp P a w K Q
section
variable {P:Program} {φ:Sems} {o:Oper} {a:Act} {w:World}
theorem wp_value {K Q v w'} (h:(execOp a.eval o).run P w=.ok (.value v) w') (hk:K (a.put o.dst v) w'):o.wp P a w K Q:=by
 unfold Oper.wp;rw [h];exact hk
theorem wp_skipped {K Q w'} (h:(execOp a.eval o).run P w=.ok .skip w') (hk:K (a.put o.dst undef) w'):o.wp P a w K Q:=by
 unfold Oper.wp;rw [h];exact hk
theorem run_v {s:Sem Value} {x w'} (h:s.run P w=.ok x w'):((do pure (Next.value (← s))):Sem Next).run P w=.ok (.value x) w':=by simp [h]
theorem addr_add (b o n:Nat):(⟨b,o,none⟩:Addr).add n=⟨b,o+n,none⟩:=by unfold Addr.add;split <;> simp_all
theorem run_underlying {t d} (h:P.underlying t=some d):(underlying t).run P w=.ok d w:=by simp [underlying,h]
theorem run_sizeOf {t i} (h:P.info? t=some i):(sizeOf t).run P w=.ok i.size w:=by simp [sizeOf,typeInfo,h]
theorem info_of_sz {t} (h:szOf P t≠0):∃ i,P.info? t=some i∧i.size=szOf P t:=by
 unfold szOf at *
 cases e:P.info? t with
 | none=>simp [e] at h
 | some i=>exact ⟨i,rfl,rfl⟩
theorem run_isAgg {t d} (h:P.underlying t=some d):(isAgg t).run P w=.ok (isAg P t) w:=by
 unfold isAgg isAg
 simp only [Sem.run_bind,run_underlying h,Result.andThen_ok,h]
 cases d <;> simp
theorem relBool {E G V g own p v} (h:RelC E G V w g (.tr own (.bool p)) v):v=.bool p:=by cases own <;> exact h
theorem relInt {E G V g own k p v} (h:RelC E G V w g (.tr own (.int k p)) v):v=.int k p:=by cases own <;> exact h
theorem relStr {E G V g own p v} (h:RelC E G V w g (.tr own (.str p)) v):v=.string p:=by cases own <;> exact h
theorem putT_sound {E σ G} (h:Rel E σ a w G) (hp:∀ y,G (park y)=noG) {dst L t v σ' L' u} (hr:RelOwn w t noG v) (hrun:(putT dst t).run φ σ L=some (u,σ',L')):S E σ' (a.put dst v) w :=
 put_sound h 0 (rows:=[(false,[.tr true t])]) (by rw [hp 0];exact hr) hrun
theorem put1_sound {E σ G} (h:Rel E σ a w G) (hp:∀ y,G (park y)=noG) {dst L c v σ' L' u} (hr:RelC E G σ.V w noG c v) (hrun:(put1 dst c).run φ σ L=some (u,σ',L')):S E σ' (a.put dst v) w :=
 put_sound h 0 (rows:=[(false,[c])]) (by rw [hp 0];exact hr) hrun
theorem ok_move {dst x ty pos after guard}:OpOk P φ ⟨dst,.move x,ty,pos,after,guard⟩ ((peekT x).bind (put dst)):=by
 intro E σ a w L σ' L' ⟨G,hG,hp⟩ hrun K Q hK
 obtain ⟨rows,σ1,L1,h1,h2⟩:=run_bind hrun
 obtain ⟨rfl,hrel⟩:=peekT_sound hG h1
 exact wp_value (v:=a.eval x) (w':=w) rfl (hK _ _ (put_sound hG 0 (by rw [hp 0];exact hrel) h2))
theorem takeRowBy_sound {E σ G} (h:Rel E σ a w G) {tk:C→Pr C} (htk:TakeOk φ tk) (y:Nat) (hp:G (park y)=noG) {x row' L σ' L'} (hrun:(takeRowBy tk x).run φ σ L=some (row',σ',L')) :
  ∃ G',Rel E σ' a w G'∧RelRow E G' σ'.V w (fun k q=>G' (park y) (0 :: k :: q)) row' (a.eval x)∧Good G σ.V G' σ'.V∧∀ z,z≠y→G' (park z)=G (park z):=by
 obtain ⟨row,σ1,L1,h1,h2⟩:=run_bind hrun
 obtain ⟨rfl,hrel⟩:=peekRow_sound h h1
 obtain ⟨G',hG',hr,_,hgood,hpk⟩:=takeRowT_sound h φ htk y hp hrel h2
 exact ⟨G',hG',hr,hgood,hpk⟩
theorem takeRow_sound {E σ G} (h:Rel E σ a w G) (y:Nat) (hp:G (park y)=noG) {x row' L σ' L'} (hrun:(takeRow x).run φ σ L=some (row',σ',L')) :
  ∃ G',Rel E σ' a w G'∧RelRow E G' σ'.V w (fun k q=>G' (park y) (0 :: k :: q)) row' (a.eval x)∧Good G σ.V G' σ'.V∧∀ z,z≠y→G' (park z)=G (park z) :=
 takeRowBy_sound h (take_ok φ) y hp hrun
theorem typC_rel {E:Env} {G:GG} {V:Nat→Ver} {w:World} {g:Gh} {t:TypeId} {c:C} {v:Value} (h:RelC E G V w g c v):RelC E G V w g (typC P t c) v:=by
 unfold typC
 split
 ·rename_i m n f
  cases hm:Nat.beq m 0 with
  | false=>exact h
  | true =>
   simp only [cond_true]
   split
   ·rcases h with ⟨h1,_,h3⟩ | ⟨b,off,cap,cs,e,_,_,h3,_⟩
    ·exact .inl ⟨h1,rfl,h3⟩
    ·have:=beq_eq hm
     omega
   ·exact h
 ·exact h
theorem typCs_len:∀ (ts:List TypeId) (cs:List C),(typCs P ts cs).length=cs.length
 | [],_=>by simp [typCs]
 | _ :: _,[]=>by simp [typCs]
 | t :: ts,c :: cs=>by simp [typCs,typCs_len ts cs]
theorem typCs_get {E:Env} {G:GG} {V:Nat→Ver} {w:World} {g:Gh} {v:Value}:∀ (ts:List TypeId) (cs:List C) (k:Nat) (c:C),(typCs P ts cs)[k]?=some c→∃ c0,cs[k]?=some c0∧(RelC E G V w g c0 v→RelC E G V w g c v)
 | [],cs,k,c,h=>⟨c,by simpa [typCs] using h,id⟩
 | _ :: _,[],k,c,h=>by simp [typCs] at h
 | t :: ts,c0 :: cs,k,c,h=>by
  cases k with
  | zero=>simp [typCs] at h;subst h;exact ⟨c0,rfl,typC_rel⟩
  | succ k=>simpa using typCs_get ts cs k c (by simpa [typCs] using h)
theorem typCs_rel {E:Env} {G:GG} {V:Nat→Ver} {w:World} {g:Nat→Gh} {ts:List TypeId} {cs:List C} {vs:Array Value} (h:RelCs E G V w g cs vs):RelCs E G V w g (typCs P ts cs) vs:=by
 refine ⟨by rw [typCs_len];exact h.1,fun k c hk=>?_⟩
 have hc:∃ c0,cs[k]?=some c0:=(typCs_get (P:=P) (E:=E) (G:=G) (V:=V) (w:=w) (g:=g k) (v:=undef) ts cs k c hk).imp fun _ h=>h.1
 obtain ⟨c0,hc0⟩:=hc
 obtain ⟨u,hu,hr⟩:=h.2 k c0 hc0
 obtain ⟨c1,hc1,hr1⟩:=typCs_get (P:=P) (E:=E) (G:=G) (V:=V) (w:=w) (g:=g k) (v:=u) ts cs k c hk
 rw [hc0] at hc1
 cases hc1
 exact ⟨u,hu,hr1 hr⟩
theorem typRow_rel {E:Env} {G:GG} {V:Nat→Ver} {w:World} {g:Nat→Gh} {ts:List TypeId} {row:Row} {v:Value} (h:RelRow E G V w g row v):RelRow E G V w g (row.1,typCs P ts row.2) v:=by
 obtain ⟨ag,cs⟩:=row
 cases ag with
 | true=>obtain ⟨vs,e,hc⟩:=h;exact ⟨vs,e,typCs_rel hc⟩
 | false=>match cs,h with
  | [],hx=>cases ts <;> exact hx
  | [c],hx=>cases ts with
   | nil=>exact hx
   | cons t ts=>cases ts <;> exact typC_rel hx
theorem ok_assign {dst x ty pos after guard}:OpOk P φ ⟨dst,.assign x,ty,pos,after,guard⟩ ((takeRow x).bind fun row=>put dst [(row.1,typCs P [ty] row.2)]):=by
 intro E σ a w L σ' L' ⟨G,hG,hp⟩ hrun K Q hK
 obtain ⟨row,σ1,L1,h1,h2⟩:=run_bind hrun
 obtain ⟨G',hG',hr,_,_⟩:=takeRow_sound hG 0 (hp 0) h1
 exact wp_value (v:=a.eval x) (w':=w) rfl (hK _ _ (put_sound hG' 0 (rows:=[(row.1,typCs P [ty] row.2)]) (typRow_rel hr) h2))
theorem ok_pick {dst c x y ty pos after guard}:OpOk P φ ⟨dst,.pick c x y,ty,pos,after,guard⟩ (opP P ⟨dst,.pick c x y,ty,pos,after,guard⟩):=by
 intro E σ a w L σ' L' ⟨G,hG,hp⟩ hrun K Q hK
 obtain ⟨c',σ1,L1,h1,h2⟩:=run_bind hrun
 obtain ⟨rfl,hrel⟩:=peek1_sound hG h1
 split at h2
 ·rename_i p
  have hv:=relBool hrel
  have hx:(execOp a.eval ⟨dst,.pick c x y,ty,pos,after,guard⟩).run P w=.ok (.value (if p then a.eval x else a.eval y)) w:=by
   simp [execOp,hv,asBool]
  cases p with
  | true =>
   obtain ⟨rows,σ2,L2,h3,h4⟩:=run_bind (φ:=φ) (p:=peek x) (g:=put dst) h2
   obtain ⟨rfl,hr2⟩:=peek_sound hG h3
   exact wp_value hx (hK _ _ (put_sound hG 0 (by rw [hp 0];exact hr2) h4))
  | false =>
   obtain ⟨rows,σ2,L2,h3,h4⟩:=run_bind (φ:=φ) (p:=peek y) (g:=put dst) h2
   obtain ⟨rfl,hr2⟩:=peek_sound hG h3
   exact wp_value hx (hK _ _ (put_sound hG 0 (by rw [hp 0];exact hr2) h4))
 ·exact (run_fail h2).elim
theorem ok_not {dst t x ty pos after guard}:OpOk P φ ⟨dst,.unOp .not t x,ty,pos,after,guard⟩ (opP P ⟨dst,.unOp .not t x,ty,pos,after,guard⟩):=by
 intro E σ a w L σ' L' ⟨G,hG,hp⟩ hrun K Q hK
 obtain ⟨c',σ1,L1,h1,h2⟩:=run_bind hrun
 obtain ⟨rfl,hrel⟩:=peek1_sound hG h1
 split at h2
 ·rename_i b
  have hv:=relBool hrel
  exact wp_value (v:=.bool !b) (w':=w) (by simp [execOp,hv,Op.unary]) (hK _ _ (putT_sound hG hp (t:=.bool !b) rfl h2))
 ·exact (run_fail h2).elim
theorem ok_extract {dst x i ty pos after guard}:OpOk P φ ⟨dst,.extract x i,ty,pos,after,guard⟩ (opP P ⟨dst,.extract x i,ty,pos,after,guard⟩):=by
 intro E σ a w L σ' L' ⟨G,hG,hp⟩ hrun K Q hK
 obtain ⟨rows,σ1,L1,h1,h2⟩:=run_bind hrun
 obtain ⟨rfl,hrel⟩:=peek_sound hG h1
 split at h2
 ·rename_i r r' rs
  split at h2
  ·rename_i row hi
   obtain ⟨vs,e,hs,hh⟩:=hrel
   obtain ⟨u,hu,hr⟩:=hh i row hi
   refine wp_value (v:=u) (w':=w) (by simp [execOp,e,Instr.extract,hu]) (hK _ _ (put_sound hG 0 (rows:=[row]) (by rw [hp 0];exact hr) h2))
  ·exact (run_fail h2).elim
 ·exact (run_fail h2).elim
theorem ok_nilCheck {dst x ty pos after guard}:OpOk P φ ⟨dst,.nilCheck x,ty,pos,after,guard⟩ (opP P ⟨dst,.nilCheck x,ty,pos,after,guard⟩):=by
 intro E σ a w L σ' L' ⟨G,hG,hp⟩ hrun K Q hK
 obtain ⟨c',σ1,L1,h1,h2⟩:=run_bind hrun
 obtain ⟨rfl,hrel⟩:=peek1_sound hG h1
 split at h2
 ·rename_i p
  have:∃ ad,a.eval x=.pointer (some ad):=by
   cases p with
   | ptr r ver p m j k=>obtain ⟨b,o,hv,_⟩:=hrel;exact ⟨_,hv⟩
   | pim m g=>obtain ⟨b,o,hv,_⟩:=hrel;exact ⟨_,hv⟩
  obtain ⟨ad,hv⟩:=this
  refine wp_value (v:=a.eval x) (w':=w) (by simp [execOp,hv]) (hK _ _ (put1_sound hG hp hrel h2))
 ·rename_i f caps
  obtain ⟨vs,hv,hs,hh⟩:=hrel
  refine wp_value (v:=a.eval x) (w':=w) (by simp [execOp,hv]) (hK _ _ (put1_sound hG hp (c:=.fn f caps) ⟨vs,hv,hs,hh⟩ h2))
 ·exact (run_fail h2).elim
theorem relPt_field {E G V x v} (off:Nat) (h:RelPt E G V x v):∃ b o,v=.pointer (some ⟨b,o,none⟩)∧RelPt E G V (fieldPt off x) (.pointer (some ⟨b,o+off,none⟩)):=by
 cases x with
 | ptr r ver p m j k =>
  obtain ⟨b,o,hv,h0,h1,h2⟩:=h
  refine ⟨b,o,hv,b,o+off,rfl,h0,h1,fun e=>?_⟩
  obtain ⟨f,cap,hg,ho⟩:=h2 e
  exact ⟨f,cap,hg,by omega⟩
 | pim m g =>
  obtain ⟨b,o,hv,hh⟩:=h
  refine ⟨b,o,hv,b,o+off,rfl,fun i hi=>?_⟩
  have:=hh (off+i) (by omega)
  rw [← Nat.add_assoc] at this
  exact this
theorem fieldOf_some {t k off ft} (h:fieldOf P t k=some (off,ft)):∃ fs f,P.underlying t=some (.struct fs)∧fs[k]?=some f∧f.offset=off∧f.type=ft:=by
 unfold fieldOf at h
 split at h
 ·rename_i fs hu
  split at h
  ·rename_i f hf
   simp only [Option.some.injEq,Prod.mk.injEq] at h
   exact ⟨fs,f,hu,hf,h.1,h.2⟩
  ·simp at h
 ·simp at h
theorem ok_fieldAddr {dst t x k ty pos after guard}:OpOk P φ ⟨dst,.fieldAddr t x k,ty,pos,after,guard⟩ (opP P ⟨dst,.fieldAddr t x k,ty,pos,after,guard⟩):=by
 intro E σ a w L σ' L' ⟨G,hG,hp⟩ hrun K Q hK
 obtain ⟨c',σ1,L1,h1,h2⟩:=run_bind hrun
 obtain ⟨rfl,hrel⟩:=peek1_sound hG h1
 simp only at h2
 split at h2
 ·rename_i off ft pt hf
  obtain ⟨fs,f,hu,hfk,ho,hft⟩:=fieldOf_some hf
  cases hz:Nat.beq (szOf P ft) 0 with
  | true=>rw [hz] at h2;exact (run_fail h2).elim
  | false =>
   rw [hz] at h2
   have hne:szOf P ft≠0:=fun e=>by rw [e] at hz;cases hz
   obtain ⟨i,hi,his⟩:=info_of_sz hne
   obtain ⟨b,o,hv,hpt⟩:=relPt_field off hrel
   refine wp_value (v:=.pointer (some ⟨b,o+off,none⟩)) (w':=w) ?_ (hK _ _ (put1_sound hG hp (c:=.pt (fieldPt off pt)) hpt h2))
   have hsz:(sizeOf f.type).run P w=.ok i.size w:=run_sizeOf (hft ▸ hi)
   have hi0:i.size≠0:=his ▸ hne
   simp [execOp,Instr.fieldAt,run_underlying hu,hfk,hv,Instr.sureAddr,fieldPlace,hsz,hi0,addr_add,ho]
 ·exact (run_fail h2).elim
theorem mapPeek_sound {E σ G} (h:Rel E σ a w G):∀ (l:List Operand) {cs L σ' L'},(mapP peek1 l).run φ σ L=some (cs,σ',L')→σ'=σ∧cs.length=l.length∧∀ (i:Nat) c,cs[i]?=some c→∃ x,l[i]?=some x∧RelC E G σ.V w noG c (a.eval x)
 | [],cs,L,σ',L',hr=>by
  have:=run_ret (φ:=φ) hr
  simp at this
  obtain ⟨rfl,rfl,rfl⟩:=this
  exact ⟨rfl,rfl,fun i c hi=>by simp at hi⟩
 | x :: l,cs,L,σ',L',hr=>by
  obtain ⟨c,σ1,L1,h1,h2⟩:=run_bind hr
  obtain ⟨rfl,hrel⟩:=peek1_sound h h1
  obtain ⟨cs',σ2,L2,h3,h4⟩:=run_bind h2
  obtain ⟨rfl,hl,hh⟩:=mapPeek_sound h l h3
  have:=run_ret h4
  simp at this
  obtain ⟨rfl,rfl,rfl⟩:=this
  refine ⟨rfl,by simp [hl],fun i c' hi=>?_⟩
  cases i with
  | zero=>simp at hi;subst hi;exact ⟨x,rfl,hrel⟩
  | succ i=>simp at hi;simpa using hh i c' hi
theorem ptsOf_some:∀ {cs:List C} {ps:List Pt},ptsOf cs=some ps→ps.length=cs.length∧∀ (i:Nat) x,ps[i]?=some x→cs[i]?=some (.pt x)
 | [],ps,h=>by
  simp only [ptsOf,Option.some.injEq] at h
  subst h
  exact ⟨rfl,fun i x hi=>by simp at hi⟩
 | c :: cs,ps,h=>by
  cases c with
  | pt y =>
   simp only [ptsOf] at h
   cases e:ptsOf cs with
   | none=>simp [e] at h
   | some ps' =>
    simp only [e,Option.some.injEq] at h
    subst h
    obtain ⟨h1,h2⟩:=ptsOf_some e
    refine ⟨by simp [h1],fun i x hi=>?_⟩
    cases i with
    | zero=>simp at hi;subst hi;rfl
    | succ i=>simp at hi;simpa using h2 i x hi
  | _=>simp [ptsOf] at h
theorem ok_makeFunc {dst f first caps ty pos after guard}:OpOk P φ ⟨dst,.makeFunc (.func f) first caps,ty,pos,after,guard⟩ (opP P ⟨dst,.makeFunc (.func f) first caps,ty,pos,after,guard⟩):=by
 intro E σ a w L σ' L' ⟨G,hG,hp⟩ hrun K Q hK
 simp only [opP] at hrun
 cases hz:Nat.beq first.size 0 with
 | false=>rw [hz] at hrun;exact (run_fail hrun).elim
 | true =>
  rw [hz] at hrun
  have hf0:first=#[]:=by have:=beq_eq hz;exact Array.eq_empty_of_size_eq_zero this
  subst hf0
  obtain ⟨cs,σ1,L1,h1,h2⟩:=run_bind (φ:=φ) (p:=mapP peek1 caps.toList) hrun
  obtain ⟨rfl,hl,hh⟩:=mapPeek_sound hG _ h1
  split at h2
  ·rename_i ps hps
   refine wp_value (v:=.func (.func f) #[] (caps.map a.eval)) (w':=w) (by simp [execOp,Instr.makeFunc]) (hK _ _ (put1_sound hG hp (c:=.fn f ps) ?_ h2))
   obtain ⟨hlen,hall⟩:=ptsOf_some hps
   refine ⟨_,rfl,by simp [hlen,hl],fun i x hi=>?_⟩
   obtain ⟨y,hy,hrel⟩:=hh i _ (hall i x hi)
   exact ⟨a.eval y,by simp at hy;simp [hy],hrel⟩
  ·exact (run_fail h2).elim
theorem RelCs.drop {E G V cs vs} (h:RelCs E G V w (fun _=>noG) cs vs) (off n:Nat) (hl:off+n≤cs.length):RelCs E G V w (fun _=>noG) ((cs.drop off).take n) (vs.extract off (off+n)):=by
 have hs:=h.1
 refine ⟨by simp;omega,fun k c hk=>?_⟩
 rw [List.getElem?_take] at hk
 split at hk
 ·rename_i hlt
  rw [List.getElem?_drop] at hk
  obtain ⟨u,hu,hr⟩:=h.2 _ _ hk
  refine ⟨u,?_,hr⟩
  have hb:off+k < vs.size:=(Array.getElem?_eq_some_iff.1 hu).1
  rw [Array.getElem?_extract]
  simp only [hu]
  rw [if_pos (by omega)]
 ·simp at hk
theorem ok_field {dst t x k ty pos after guard}:OpOk P φ ⟨dst,.field t x k,ty,pos,after,guard⟩ (opP P ⟨dst,.field t x k,ty,pos,after,guard⟩):=by
 intro E σ a w L σ' L' ⟨G,hG,hp⟩ hrun K Q hK
 obtain ⟨row,σ1,L1,h1,h2⟩:=run_bind hrun
 obtain ⟨rfl,hrel⟩:=peekRow_sound hG h1
 simp only at h2
 split at h2
 ·rename_i off ft cs hf
  obtain ⟨fs,f,hu,hfk,ho,hft⟩:=fieldOf_some hf
  obtain ⟨hle0,h2⟩:=run_guard h2
  simp only [Bool.and_eq_true] at hle0
  obtain ⟨hok,hle⟩:=hle0
  have hle:=Nat.le_of_ble_eq_true hle
  obtain ⟨vs,hv,hcs⟩:=hrel
  cases hd:P.underlying ft with
  | none=>simp [okTy,hd] at hok
  | some d =>
   cases hag:isAg P ft with
   | true =>
    simp only [szA,hag,cond_true] at hle h2
    have hne:∃ i,P.info? ft=some i:=by
     unfold Program.underlying at hd
     cases e:P.info? ft with
     | none=>simp [e] at hd
     | some i=>exact ⟨i,rfl⟩
    obtain ⟨i,hi⟩:=hne
    have hsz:szOf P ft=i.size:=by simp [szOf,hi]
    refine wp_value (v:=.agg (vs.extract off (off+szOf P ft))) (w':=w) ?_ (hK _ _ (put_sound hG 0 (rows:=[(true,(cs.drop off).take (szOf P ft))]) (by rw [hp 0];exact ⟨_,rfl,hcs.drop off _ hle⟩) h2))
    simp [execOp,Instr.field,run_underlying hu,hfk,hv,asAgg,part,hft,run_isAgg hd,hag,run_sizeOf hi,ho,hsz]
   | false =>
    simp only [szA,hag,cond_false] at hle h2
    obtain ⟨c,hc⟩:∃ c,cs[off]?=some c:=⟨_,List.getElem?_eq_getElem (by omega)⟩
    have h1c:(cs.drop off).take 1=[c]:=by
     rw [List.take_one]
     simp [List.head?_drop,hc]
    rw [h1c] at h2
    obtain ⟨u,hu',hr⟩:=hcs.2 _ _ hc
    refine wp_value (v:=u) (w':=w) ?_ (hK _ _ (put_sound hG 0 (rows:=[(false,[c])]) (by rw [hp 0];exact hr) h2))
    simp [execOp,Instr.field,run_underlying hu,hfk,hv,asAgg,part,hft,run_isAgg hd,hag,ho,hu']
 ·exact (run_fail h2).elim
theorem lenC_sound {E G V c v n t ty} (h:RelC E G V w noG c v) (hn:lenC (P.underlying t) c=some n):(Builtin.len_ #[t] ty #[v]).run P w=.ok (.int .i64 n) w:=by
 unfold lenC at hn
 split at hn
 ·rename_i e own m n' f hu
  simp only [Option.some.injEq] at hn
  subst hn
  cases own with
  | true=>rcases h with ⟨_,rfl,rfl⟩ | ⟨b,off,cap,cs,e',_,rfl,_⟩ <;> simp [Builtin.len_,run_underlying hu,goInt]
  | false=>obtain ⟨A,cap,rfl,_⟩:=h;simp [Builtin.len_,run_underlying hu,goInt]
 ·rename_i own s hu
  simp only [Option.some.injEq] at hn
  subst hn
  have:=relStr h
  subst this
  simp [Builtin.len_,run_underlying hu,goInt]
 ·rename_i e r ver p m s n' hu
  simp only [Option.some.injEq] at hn
  subst hn
  obtain ⟨A,cap,rfl,_⟩:=h
  simp [Builtin.len_,run_underlying hu,goInt]
 ·simp at hn
theorem ok_len {dst x t ty pos after guard}:OpOk P φ ⟨dst,.call ⟨.builtin .len,#[x],#[t]⟩,ty,pos,after,guard⟩ ((peek1 x).bind (lenP P t dst)):=by
 intro E σ a w L σ' L' ⟨G,hG,hp⟩ hrun K Q hK
 obtain ⟨c',σ1,L1,h1,h2⟩:=run_bind hrun
 obtain ⟨rfl,hrel⟩:=peek1_sound hG h1
 unfold lenP at h2
 split at h2
 ·rename_i n hn
  refine wp_value (v:=.int .i64 n) (w':=w) ?_ (hK _ _ (putT_sound hG hp (t:=.int .i64 n) rfl h2))
  have:=lenC_sound (w:=w) (ty:=ty) hrel hn
  simp [execOp,resolve,invoke,builtin,this]
 ·exact (run_fail h2).elim
theorem ok_index {dst t x i ty pos after guard}:OpOk P φ ⟨dst,.index t x i,ty,pos,after,guard⟩ (opP P ⟨dst,.index t x i,ty,pos,after,guard⟩):=by
 intro E σ a w L σ' L' ⟨G,hG,hp⟩ hrun K Q hK
 obtain ⟨c',σ1,L1,h1,h2⟩:=run_bind hrun
 obtain ⟨rfl,hrel⟩:=peek1_sound hG h1
 obtain ⟨ci,σ1,L1,h3,h4⟩:=run_bind h2
 obtain ⟨rfl,hreli⟩:=peek1_sound hG h3
 split at h4
 ·rename_i iv own s hi hu
  obtain ⟨hb,h4⟩:=run_guard h4
  simp only [Bool.and_eq_true,decide_eq_true_eq,Nat.blt_eq] at hb
  have hiv:∃ o,ci=.tr o (.int .i64 iv):=by
   unfold intC at hi
   split at hi
   ·rename_i o n
    simp only [Option.some.injEq] at hi
    subst hi
    exact ⟨o,rfl⟩
   ·simp at hi
  obtain ⟨oi,rfl⟩:=hiv
  have hv:=relStr hrel
  have hvi:=relInt hreli
  refine wp_value (v:=.int .u8 (s.data.getD iv.toNat 0).toNat) (w':=w) ?_ (hK _ _ (putT_sound hG hp (t:=.int .u8 (s.data.getD iv.toNat 0).toNat) rfl h4))
  have hlt:iv.toNat < s.data.size:=hb.2
  have e1:s[iv.toNat]?=some (s.data[iv.toNat]'hlt):=by
   rw [getElem?_pos s iv.toNat hb.2]
   rfl
  have e2:s.data.getD iv.toNat 0=s.data[iv.toNat]'hlt:=by rw [Array.getD_eq_getD_getElem?,Array.getElem?_eq_getElem hlt];rfl
  simp [execOp,Instr.index,hv,hvi,asIntOf,run_underlying hu,hb.1,e1,e2]
 ·exact (run_fail h4).elim
def valT:T→Value
 | .int k n=>.int k n
 | .bool b=>.bool b
 | .str s=>.string s
 | _=>undef
theorem int_guard {ρ1 ρ2:Operand} {op k x k' y t}:(eqGuard op t ρ1 ρ2 (.int k x) (.int k' y)).run P w=.ok () w:=by
 unfold eqGuard
 cases op <;> simp
theorem int_bin {ρ1 ρ2:Operand} {op k x y t u} (h:intBin op k x y=some u):((do eqGuard op t ρ1 ρ2 (.int k x) (.int k y);binOp op t (.int k x) (.int k y)):Sem Value).run P w=.ok (valT u) w∧RelOwn w u noG (valT u):=by
 unfold intBin at h
 split at h <;> first
  | (simp at h;done)
  | (simp only [Option.some.injEq] at h;subst h;exact ⟨by simp [int_guard,binOp,Op.intArith,Op.intBits,Op.intCmp,valT],rfl⟩)
theorem str_bin {ρ1 ρ2:Operand} {op x y t u} (h:strBin op x y=some u):((do eqGuard op t ρ1 ρ2 (.string x) (.string y);binOp op t (.string x) (.string y)):Sem Value).run P w=.ok (valT u) w∧RelOwn w u noG (valT u):=by
 unfold strBin at h
 split at h <;> first
  | (simp at h;done)
  | (simp only [Option.some.injEq] at h;subst h;exact ⟨by simp [eqGuard,binOp,Op.stringOp,valT],rfl⟩)
/-- The array agrees with the cells from 'off' on. -/
def Fits (E:Env) (G:GG) (V:Nat→Ver) (w:World) (cs:List C) (off n:Nat) (X:Array Value):Prop :=
 X.size=n∧∀ k,k < n→∃ c u,cs[off+k]?=some c∧X[k]?=some u∧RelC E G V w noG c u
theorem Fits.part {E G V cs off n X} (h:Fits E G V w cs off n X) (o m:Nat) (hm:o+m≤n):Fits E G V w cs (off+o) m (X.extract o (o+m)):=by
 have hs:=h.1
 refine ⟨by simp;omega,fun k hk=>?_⟩
 obtain ⟨c,u,h1,h2,h3⟩:=h.2 (o+k) (by omega)
 refine ⟨c,u,by rw [← h1];congr 1;omega,?_,h3⟩
 rw [Array.getElem?_extract]
 simp only [h2]
 rw [if_pos (by omega)]
/-- The value of type t agrees with the cells from 'off' on. -/
def FitV (P:Program) (E:Env) (G:GG) (V:Nat→Ver) (w:World) (t:TypeId) (cs:List C) (off:Nat) (v:Value):Prop :=
 (isAg P t=true∧∃ X,v=.agg X∧Fits E G V w cs off (szOf P t) X)∨(isAg P t=false∧∃ c,cs[off]?=some c∧RelC E G V w noG c v)
theorem okTy_some {t} (h:okTy P t=true):∃ d i,P.underlying t=some d∧P.info? t=some i∧szOf P t=i.size:=by
 unfold okTy at h
 cases hd:P.underlying t with
 | none=>simp [hd] at h
 | some d =>
  have:∃ i,P.info? t=some i:=by
   unfold Program.underlying at hd
   cases e:P.info? t with
   | none=>simp [e] at hd
   | some i=>exact ⟨i,rfl⟩
  obtain ⟨i,hi⟩:=this
  exact ⟨d,i,rfl,hi,by simp [szOf,hi]⟩
theorem run_part {E G V cs off n X t o} (h:Fits E G V w cs off n X) (hok:okTy P t=true) (hle:o+szA P t≤n):∃ v,(part t X o).run P w=.ok v w∧FitV P E G V w t cs (off+o) v:=by
 obtain ⟨d,i,hd,hi,hs⟩:=okTy_some hok
 cases hag:isAg P t with
 | true =>
  simp only [szA,hag,cond_true] at hle
  exact ⟨.agg (X.extract o (o+szOf P t)),by simp [part,run_isAgg hd,hag,run_sizeOf hi,hs],.inl ⟨hag,_,rfl,h.part o _ hle⟩⟩
 | false =>
  simp only [szA,hag,cond_false] at hle
  obtain ⟨c,u,h1,h2,h3⟩:=h.2 o (by omega)
  exact ⟨u,by simp [part,run_isAgg hd,hag,h2],.inr ⟨hag,c,h1,h3⟩⟩
theorem isAg_struct {t fs} (h:P.underlying t=some (.struct fs)):isAg P t=true:=by simp [isAg,h]
theorem eqAt_sound {E G V} {cs ds:List C}:∀ (d e:Nat) (t:TypeId) (off:Nat) (b:Bool) (x y:Value),eqAt P d t cs ds off=some b→FitV P E G V w t cs off x→FitV P E G V w t ds off y →
  (Op.equalIn (d+e) t x y).run P w=.ok b w
 | 0,_,_,_,_,_,_,h,_,_=>by simp [eqAt] at h
 | d+1,e,t,off,b,x,y,h,hx,hy=>by
  have he:d+1+e=d+e+1:=by omega
  rw [he]
  simp only [eqAt] at h
  split at h
  ·rename_i k0 hu
   have hag:isAg P t=false:=by simp [isAg,hu]
   rcases hx with ⟨h1,_⟩ | ⟨_,c,hc,hr⟩
   ·rw [hag] at h1;cases h1
   rcases hy with ⟨h1,_⟩ | ⟨_,c',hc',hr'⟩
   ·rw [hag] at h1;cases h1
   rw [hc,hc'] at h
   split at h
   ·rename_i o1 k a o2 k' b' e1 e2
    obtain rfl:=Option.some.inj e1
    obtain rfl:=Option.some.inj e2
    rw [relInt hr,relInt hr']
    by_cases hk:k=k'
    ·subst hk
     simp at h
     subst h
     exact run_equalIn_int w _ _ _ _ _ _ hu
    ·simp [hk] at h
   ·simp at h
  ·rename_i hu
   have hag:isAg P t=false:=by simp [isAg,hu]
   rcases hx with ⟨h1,_⟩ | ⟨_,c,hc,hr⟩
   ·rw [hag] at h1;cases h1
   rcases hy with ⟨h1,_⟩ | ⟨_,c',hc',hr'⟩
   ·rw [hag] at h1;cases h1
   rw [hc,hc'] at h
   split at h
   ·rename_i o1 a o2 b' e1 e2
    obtain rfl:=Option.some.inj e1
    obtain rfl:=Option.some.inj e2
    rw [relBool hr,relBool hr']
    obtain rfl:=Option.some.inj h
    exact run_equalIn_bool' w _ _ _ _ hu
   ·simp at h
  ·rename_i fs hu
   obtain ⟨X,rfl,hX⟩:∃ X,x=.agg X∧Fits E G V w cs off (szOf P t) X:=by
    rcases hx with ⟨_,h⟩ | ⟨h1,_⟩
    ·exact h
    ·rw [isAg_struct hu] at h1;cases h1
   obtain ⟨Y,rfl,hY⟩:∃ Y,y=.agg Y∧Fits E G V w ds off (szOf P t) Y:=by
    rcases hy with ⟨_,h⟩ | ⟨h1,_⟩
    ·exact h
    ·rw [isAg_struct hu] at h1;cases h1
   cases hst:P.stoodInHeld t with
   | true=>simp [hst] at h
   | false =>
    have hf:P.fieldsOf t=fs:=by simp [Program.fieldsOf,hu]
    rw [run_equalIn_struct w _ t X Y (by rw [hf];exact hu) hst,hf]
    simp only [hst,cond_false] at h
    generalize fs.toList=l at h
    clear hu hf
    induction l generalizing b with
    | nil =>
     simp only [List.foldr_nil,Option.some.injEq] at h
     subst h
     simp [Op.eqFields]
    | cons f l ih =>
     simp only [List.foldr_cons] at h
     cases hg : (f.name != "_" && (okTy P f.type && Nat.ble (f.offset + szA P f.type) (szOf P t))) with
     | false=>simp [hg] at h
     | true =>
      simp only [hg,cond_true] at h
      simp only [Bool.and_eq_true,bne_iff_ne,ne_eq] at hg
      obtain ⟨hn,hok,hle⟩:=hg
      have hle:=Nat.le_of_ble_eq_true hle
      split at h
      ·rename_i b1 b2 e1 e2
       obtain ⟨v1,hv1,hf1⟩:=run_part hX hok hle
       obtain ⟨v2,hv2,hf2⟩:=run_part hY hok hle
       have h1:=eqAt_sound d e f.type _ b1 v1 v2 e1 hf1 hf2
       have h2:=ih b2 e2
       simp only [Op.eqFields,ne_eq,hn,not_false_eq_true,if_true,Sem.run_bind,hv1,Result.andThen_ok,hv2,h1]
       obtain rfl:=Option.some.inj h
       cases b1 with
       | true=>simpa using h2
       | false=>simp
      ·simp at h
  ·simp at h
theorem eqP_sound {E G V t x y b vx vy} {ρ1 ρ2:Operand} (h:eqP P t x y=some b) (hx:RelRow E G V w (fun _=>noG) x vx) (hy:RelRow E G V w (fun _=>noG) y vy) :
  ((do eqGuard .eql t ρ1 ρ2 vx vy;binOp .eql t vx vy):Sem Value).run P w=.ok (.bool b) w∧((do eqGuard .neq t ρ1 ρ2 vx vy;binOp .neq t vx vy):Sem Value).run P w=.ok (.bool !b) w:=by
 unfold eqP at h
 split at h
 ·rename_i cs ds
  cases hg:P.eqGuardType P.depth t with
  | true=>simp [hg] at h
  | false =>
   simp only [hg,cond_false] at h
   split at h
   ·rename_i fs hu
    cases hl:(Nat.beq cs.length (szOf P t)&&Nat.beq ds.length (szOf P t)) with
    | false=>simp [hl] at h
    | true =>
     simp only [hl,cond_true] at h
     simp only [Bool.and_eq_true] at hl
     have l1:=beq_eq hl.1
     have l2:=beq_eq hl.2
     obtain ⟨X,rfl,hX⟩:=hx
     obtain ⟨Y,rfl,hY⟩:=hy
     have fX:Fits E G V w cs 0 (szOf P t) X:=⟨by rw [hX.1,l1],fun k hk=>by
      obtain ⟨u,hu',hr⟩:=hX.2 k cs[k] (List.getElem?_eq_getElem (by omega))
      exact ⟨_,u,by rw [Nat.zero_add];exact List.getElem?_eq_getElem (by omega),hu',hr⟩⟩
     have fY:Fits E G V w ds 0 (szOf P t) Y:=⟨by rw [hY.1,l2],fun k hk=>by
      obtain ⟨u,hu',hr⟩:=hY.2 k ds[k] (List.getElem?_eq_getElem (by omega))
      exact ⟨_,u,by rw [Nat.zero_add];exact List.getElem?_eq_getElem (by omega),hu',hr⟩⟩
     have:=eqAt_sound 20 9980 t 0 b _ _ h (.inl ⟨isAg_struct hu,X,rfl,fX⟩) (.inl ⟨isAg_struct hu,Y,rfl,fY⟩)
     exact ⟨by simp [run_eqGuard_agg w .eql t ρ1 ρ2 X Y hg,run_eql_struct,this],by simp [run_eqGuard_agg w .neq t ρ1 ρ2 X Y hg,run_neq_struct,this]⟩
   ·simp at h
 ·rename_i o1 p o2 q
  split at h
  ·rename_i hu
   obtain rfl:=Option.some.inj h
   have e1:=relBool (show RelC E G V w noG (.tr o1 (.bool p)) vx from hx)
   have e2:=relBool (show RelC E G V w noG (.tr o2 (.bool q)) vy from hy)
   subst e1 e2
   exact ⟨by simp [eqGuard,binOp,Op.equal,Op.maxDepth,run_equalIn_bool' w 9999 t p q hu],by simp [eqGuard,binOp,Op.equal,Op.maxDepth,run_equalIn_bool' w 9999 t p q hu]⟩
  ·simp at h
 ·simp at h
theorem binP_sound {E G V t x y op vx vy u} {ρ1 ρ2:Operand} {σ σ':St} {L L':Log} (h:(binP P op t x y).run φ σ L=some (u,σ',L')) (hx:RelRow E G V w (fun _=>noG) x vx) (hy:RelRow E G V w (fun _=>noG) y vy) :
  σ'=σ∧∃ v,((do eqGuard op t ρ1 ρ2 vx vy;binOp op t vx vy):Sem Value).run P w=.ok v w∧RelOwn w u noG v:=by
 unfold binP at h
 split at h
 ·rename_i o1 k a o2 k' b
  have e1:=relInt (show RelC E G V w noG (.tr o1 (.int k a)) vx from hx)
  have e2:=relInt (show RelC E G V w noG (.tr o2 (.int k' b)) vy from hy)
  subst e1 e2
  by_cases hk:k=k'
  ·subst hk
   simp only [decide_true,cond_true] at h
   split at h
   ·obtain ⟨hb,h⟩:=run_guard h
    have:=run_ret h
    simp only [Prod.mk.injEq] at this
    obtain ⟨rfl,rfl,rfl⟩:=this
    have hb0:¬ b=0:=by simpa using hb
    exact ⟨rfl,.int k (k.wrap (a.tdiv b)),by simp [int_guard,binOp,Op.intDiv,hb0],rfl⟩
   ·obtain ⟨hb,h⟩:=run_guard h
    have:=run_ret h
    simp only [Prod.mk.injEq] at this
    obtain ⟨rfl,rfl,rfl⟩:=this
    have hb0:¬ b=0:=by simpa using hb
    exact ⟨rfl,.int k (a.tmod b),by simp [int_guard,binOp,Op.intDiv,hb0],rfl⟩
   ·split at h
    ·rename_i u' hu
     have:=run_ret h
     simp only [Prod.mk.injEq] at this
     obtain ⟨rfl,rfl,rfl⟩:=this
     obtain ⟨h1,h2⟩:=int_bin (w:=w) (P:=P) (ρ1:=ρ1) (ρ2:=ρ2) (t:=t) hu
     exact ⟨rfl,_,h1,h2⟩
    ·exact (run_fail h).elim
  ·simp only [hk,decide_false,cond_false] at h
   exact (run_fail h).elim
 ·rename_i o1 a o2 b
  have e1:=relStr (show RelC E G V w noG (.tr o1 (.str a)) vx from hx)
  have e2:=relStr (show RelC E G V w noG (.tr o2 (.str b)) vy from hy)
  subst e1 e2
  split at h
  ·rename_i u' hu
   have:=run_ret h
   simp only [Prod.mk.injEq] at this
   obtain ⟨rfl,rfl,rfl⟩:=this
   obtain ⟨h1,h2⟩:=str_bin (w:=w) (P:=P) (ρ1:=ρ1) (ρ2:=ρ2) (t:=t) hu
   exact ⟨rfl,_,h1,h2⟩
  ·exact (run_fail h).elim
 ·split at h
  ·rename_i b hb
   have:=run_ret h
   simp only [Prod.mk.injEq] at this
   obtain ⟨rfl,rfl,rfl⟩:=this
   exact ⟨rfl,_,(eqP_sound hb hx hy).1,rfl⟩
  ·rename_i b hb
   have:=run_ret h
   simp only [Prod.mk.injEq] at this
   obtain ⟨rfl,rfl,rfl⟩:=this
   exact ⟨rfl,_,(eqP_sound hb hx hy).2,rfl⟩
  ·exact (run_fail h).elim
theorem ok_binOp {dst op t x y yt ty pos after guard}:OpOk P φ ⟨dst,.binOp op t x y yt,ty,pos,after,guard⟩ (opP P ⟨dst,.binOp op t x y yt,ty,pos,after,guard⟩):=by
 intro E σ a w L σ' L' ⟨G,hG,hp⟩ hrun K Q hK
 obtain ⟨rx,σ1,L1,h1,h2⟩:=run_bind hrun
 obtain ⟨rfl,hx⟩:=peekRow_sound hG h1
 obtain ⟨ry,σ1,L1,h3,h4⟩:=run_bind h2
 obtain ⟨rfl,hy⟩:=peekRow_sound hG h3
 obtain ⟨u,σ1,L1,h5,h6⟩:=run_bind h4
 obtain ⟨rfl,v,hv,hr⟩:=binP_sound (ρ1:=x) (ρ2:=y) h5 hx hy
 exact wp_value (v:=v) (w':=w) (run_v hv) (hK _ _ (putT_sound hG hp hr h6))
end
end Go.Mach
namespace Go.Mach
section
variable {P:Program} {φ:Sems} {a:Act} {w:World}
theorem list_of {α:Type} {Q:Nat→α→Prop}:∀ (n:Nat),(∀ i,i < n→∃ u,Q i u)→∃ l:List α,l.length=n∧∀ (i:Nat) u,l[i]?=some u→Q i u
 | 0,_=>⟨[],rfl,fun i u hi=>by simp at hi⟩
 | n+1,h=>by
  obtain ⟨l,hl,hh⟩:=list_of n fun i hi=>h i (by omega)
  obtain ⟨u,hu⟩:=h n (by omega)
  refine ⟨l ++ [u],by simp [hl],fun i x hi=>?_⟩
  by_cases e:i < n
  ·rw [List.getElem?_append_left (by omega)] at hi
   exact hh i x hi
  ·rw [List.getElem?_append_right (by omega),hl] at hi
   have hi0:i - n=0:=by
    have:=(List.getElem?_eq_some_iff.1 hi).1
    simp at this
    omega
   rw [hi0] at hi
   simp at hi
   subst hi
   have:i=n:=by omega
   subst this
   exact hu
/-- A load, of cells that are told one by one. -/
theorem run_loadVar_cells {E G V} (t:TypeId) (b o:Nat) (cs:List C) (hok:okTy P t=true) (hl:cs.length=szA P t)
  (hc:∀ (i:Nat) c,cs[i]?=some c→∃ u,w.cell? ⟨b,o+i,none⟩=some u∧RelC E G V w noG c u) :
  ∃ v,(loadVar t ⟨b,o,none⟩).run P w=.ok v w∧RelRow E G V w (fun _=>noG) (isAg P t,cs) v:=by
 obtain ⟨d,i,hd,hi,hs⟩:=okTy_some hok
 cases hag:isAg P t with
 | true =>
  simp only [szA,hag,cond_true] at hl
  obtain ⟨us,hus,hh⟩:=list_of (Q:=fun i u=>w.cell? ⟨b,o+i,none⟩=some u∧∀ c,cs[i]?=some c→RelC E G V w noG c u) cs.length (fun i hi=>by
   obtain ⟨u,h1,h2⟩:=hc i cs[i] (List.getElem?_eq_getElem hi)
   exact ⟨u,h1,fun c h=>by
    rw [List.getElem?_eq_getElem hi] at h
    obtain rfl:=Option.some.inj h
    exact h2⟩)
  have hrun:=run_loadCells_list (P:=P) (w:=w) ⟨b,o,none⟩ us (fun j v hj=>by rw [addr_add];exact (hh j v hj).1)
  have hlen:us.length=i.size:=by omega
  rw [hlen] at hrun
  refine ⟨.agg us.toArray,by simp [loadVar,run_isAgg hd,hag,run_sizeOf hi,hrun],us.toArray,rfl,by simp [hus],fun k c hk=>?_⟩
  have hk':k < us.length:=by rw [hus];exact (List.getElem?_eq_some_iff.1 hk).1
  exact ⟨us[k],by simp [hk'],(hh k us[k] (List.getElem?_eq_getElem hk')).2 c hk⟩
 | false =>
  simp only [szA,hag,cond_false] at hl
  match cs,hl with
  | [c],_ =>
   obtain ⟨u,h1,h2⟩:=hc 0 c rfl
   rw [Nat.add_zero] at h1
   exact ⟨u,by simp [loadVar,run_isAgg hd,hag,h1],h2⟩
theorem Rel.cell0 {E σ G} (h:Rel E σ a w G) {b o:Nat} (hb:E.N b) {u} (hc:E.w0.cell? ⟨b,o,none⟩=some u):w.cell? ⟨b,o,none⟩=some u:=by
 unfold World.cell? at *
 rw [h.kept b hb]
 exact hc
theorem cell_of_row' {b i:Nat} {cs:Array Value} {e fr} (h:w.heap[b]?=some (.cells cs e fr)):w.cell? ⟨b,i,none⟩=cs[i]?:=by simp [World.cell?,h]
/-- What a pointer leads to: the root's content. -/
theorem Rel.nested {E σ G} (h:Rel E σ a w G) {r:Nat} {p:Path} {m n:Nat} {f:Nat→Nat→T} (hnp:notPark r) (hat:rowsAt (σ.get r).rows p=some (.arr m n f)) (hn:0 < n) :
  ∃ b off cap cs e,G r p=some (⟨b,off,none⟩,cap)∧n≤cap∧w.heap[b]?=some (.cells cs e (0,0))∧off+cap * m≤cs.size ∧
   ∀ j,j < n→∀ k,k < m→∃ u,cs[off+(j * m+k)]?=some u∧RelOwn w (f j k) (fun q=>G r (p ++ j :: k :: q)) u:=by
 have:∃ v',RelOwn w (.arr m n f) (fun q=>G r (p ++ q)) v':=by
  obtain ⟨t,rfl | rfl | rfl⟩:=np_cases hnp
  ·exact (h.slots t).at hat
  ·exact (h.box' t).at hat
  ·exact (h.exts t).at hat
 obtain ⟨v',⟨_,h0,_⟩ | ⟨b,off,cap,cs,e,h1,h2,h3,h4,h5,h6⟩⟩:=this
 ·omega
 ·exact ⟨b,off,cap,cs,e,by simpa using h1,h3.1,h4,h5,h6⟩
theorem okShape_eq {z:C} {u:T} (h:okShape z u=true):shapeT z u=u:=by
 unfold okShape at h
 split at h <;> rename_i hz
 ·cases u <;> simp [T.isI] at h
  subst h;rfl
 ·cases u <;> simp [T.isB] at h
  rfl
 ·cases u <;> simp [T.isS] at h
  rfl
 ·simp only [Bool.and_eq_true] at h
  have h1:=arr_of h.1
  have h2:=beq_eq h.2
  simp only [shapeT]
  rw [← h2]
  exact h1.symm
 ·cases h
theorem okShapes_eq {zs:List C} {g:Nat→T}:∀ {n:Nat},okShapes zs g n=true→∀ i,i < n→shapeAt zs g i=g i
 | 0,_,i,hi=>by omega
 | n+1,h,i,hi=>by
  simp only [okShapes,Bool.and_eq_true] at h
  by_cases e:i=n
  ·subst e
   unfold shapeAt
   cases hz:zs[i]? with
   | none=>rfl
   | some z=>rw [hz] at h;exact okShape_eq h.2
  ·exact okShapes_eq h.1 i (by omega)
theorem okShapes_map {α:Type} {zs:List C} {g:Nat→T} {n:Nat} (h:okShapes zs g n=true) (k:Nat→T→α):((List.range n).map fun i=>k i (shapeAt zs g i))=(List.range n).map fun i=>k i (g i) :=
 List.map_congr_left fun i hi=>by rw [okShapes_eq h i (List.mem_range.1 hi)]
theorem load1_run {t:TypeId} (hs:szA P t=1) {r ver:Nat} {p:Path} {m j k:Nat} {row:Row} {σ σ':St} {L L':Log} (h:(load1 P t r ver p m j k).run φ σ L=some (row,σ',L')) :
  ∃ L1,(loadN P t r ver p m j k).run φ σ L=some (row,σ',L1):=by
 match p,h with
 | [],h =>
  simp only [load1,runHdr] at h
  obtain ⟨h1,h⟩:=run_guard h
  obtain ⟨h2,h⟩:=run_guard h
  have h:=run_ret h
  simp only [hdB] at h1 h2 h
  simp only [loadN,runRd,h1,guardP,Pr.run,cond_true]
  cases hj:(σ.get r).rows[j]? with
  | none=>rw [hj] at h2;cases h2
  | some y =>
   obtain ⟨g,cs⟩:=y
   rw [hj] at h2 h
   simp only at h2 h
   simp only [hs,h2,Pr.run,cond_true]
   simp only [Prod.mk.injEq] at h
   exact ⟨_,by rw [h.1,h.2.1]⟩
 | a :: p,h =>
  simp only [load1,runHdr] at h
  obtain ⟨h1,h⟩:=run_guard h
  obtain ⟨h2,h⟩:=run_guard h
  obtain ⟨h3,h⟩:=run_guard h
  have h:=run_ret h
  simp only [hdE] at h1 h2 h3 h
  simp only [loadN,runRd,h1,guardP,Pr.run,cond_true,arrAt,h2,hs,h3]
  simp only [Prod.mk.injEq] at h
  exact ⟨_,by rw [h.1,h.2.1]⟩
theorem loadP_sound {E σ G} (h:Rel E σ a w G) {t x row L σ' L' v} (hr:RelPt E G σ.V x v) (hrun:(loadP P t x).run φ σ L=some (row,σ',L')) :
  σ'=σ∧∃ b o u,v=.pointer (some ⟨b,o,none⟩)∧(loadVar t ⟨b,o,none⟩).run P w=.ok u w∧RelRow E G σ.V w (fun _=>noG) row u:=by
 cases x with
 | pim m g =>
  obtain ⟨b,o,rfl,hh⟩:=hr
  obtain ⟨hb,hrun⟩:=run_guard hrun
  simp only [Bool.and_eq_true] at hb
  obtain ⟨⟨hok,hle⟩,hsh⟩:=hb
  have hle:=Nat.le_of_ble_eq_true hle
  have:=run_ret hrun
  simp only [Prod.mk.injEq] at this
  rw [okShapes_map hsh fun _ t=>C.tr false t] at this
  obtain ⟨rfl,rfl,rfl⟩:=this
  obtain ⟨u,h1,h2⟩:=run_loadVar_cells (P:=P) (w:=w) (E:=E) (G:=G) (V:=σ'.V) t b o ((List.range (szA P t)).map fun i=>C.tr false (g i)) hok (by simp) (fun i c hi=>by
   simp only [List.getElem?_map] at hi
   obtain ⟨i',hi',rfl⟩:=Option.map_eq_some_iff.1 hi
   have hlt:i < szA P t:=by have:=(List.getElem?_eq_some_iff.1 hi').1;simpa using this
   have:i'=i:=by rw [List.getElem?_range hlt] at hi';exact (Option.some.inj hi').symm
   subst this
   obtain ⟨hN,u,hu,hrel⟩:=hh i' (by omega)
   exact ⟨u,h.cell0 hN hu,hrel⟩)
  exact ⟨rfl,b,o,u,rfl,h1,h2⟩
 | ptr r ver p m j k =>
  obtain ⟨b,o,rfl,⟨hnp,hbox⟩,hver,hval⟩:=hr
  obtain ⟨L',hrun⟩:∃ L1,(loadN P t r ver p m j k).run φ σ L=some (row,σ',L1):=by
   simp only [loadP] at hrun
   cases hs:Nat.beq (szA P t) 1 with
   | true=>rw [hs,cond_true] at hrun;exact load1_run (beq_eq hs) hrun
   | false=>rw [hs,cond_false] at hrun;exact ⟨_,hrun⟩
  simp only [loadN,runRd] at hrun
  obtain ⟨hb,hrun⟩:=run_guard hrun
  have hv:(σ.get r).ver p=ver:=beq_eq hb
  obtain ⟨off,cap,hg,ho⟩:=hval hv
  match p,hbox,hg,hrun with
  | [],hbox,hg,hrun =>
   obtain ⟨t',rfl | rfl | rfl⟩:=np_cases hnp
   ·have:=hbox rfl;unfold slot at this;omega
   rotate_left
   ·have:=hbox rfl;unfold ext at this;omega
   simp only at hrun
   split at hrun
   ·rename_i g cs hrow
    obtain ⟨hb,hrun⟩:=run_guard hrun
    simp only [Bool.and_eq_true] at hb
    obtain ⟨hok,hle⟩:=hb
    have hle:=Nat.le_of_ble_eq_true hle
    have:=run_ret hrun
    simp only [Prod.mk.injEq] at this
    obtain ⟨rfl,rfl,rfl⟩:=this
    rcases h.box' t' with h0 | ⟨row',b',cs',e',hrows,hg',hw,hc⟩
    ·rw [h0] at hrow;simp at hrow
    ·rw [hrows] at hrow
     rw [hg] at hg'
     simp only [Option.some.injEq,Prod.mk.injEq,Addr.mk.injEq,and_true] at hg'
     obtain ⟨⟨rfl,rfl⟩,rfl⟩:=hg'
     cases j with
     | succ j=>simp at hrow
     | zero =>
      simp only [List.getElem?_cons_zero,Option.some.injEq] at hrow
      subst hrow
      obtain ⟨u,h1,h2⟩:=run_loadVar_cells (P:=P) (w:=w) (E:=E) (G:=G) (V:=σ'.V) t b o (mapI (fun i c=>viewC (box t') (σ'.get (box t')).ver [0,k+i] c) 0 ((cs.drop k).take (szA P t))) hok (by simp [mapI_length];omega) (fun i c hi=>by
       rw [mapI_get,Nat.zero_add] at hi
       obtain ⟨c0,hc0,rfl⟩:=Option.map_eq_some_iff.1 hi
       rw [List.getElem?_take] at hc0
       split at hc0
       ·rw [List.getElem?_drop] at hc0
        obtain ⟨u,hu,hrel⟩:=hc.2 _ _ hc0
        refine ⟨u,by rw [cell_of_row' hw,← hu];congr 1;omega,?_⟩
        have:=RelC.view (pp:=[0,k+i]) (np_box t') (by simp) hrel
        exact this
       ·simp at hc0)
      exact ⟨rfl,b,o,u,rfl,h1,h2⟩
   ·exact (run_fail hrun).elim
  | x :: p',hbox,hg,hrun =>
   simp only at hrun
   ·obtain ⟨m',n',f,hat,_,hrun1⟩:=run_arrAt hrun
    replace hrun1:=run_guard hrun1
    obtain ⟨hb,hrun2⟩:=hrun1
    simp only [Bool.and_eq_true,Nat.blt_eq] at hb
    obtain ⟨⟨hok,hm,hj,hle⟩,hsh⟩:=hb
    have hm:=beq_eq hm
    subst hm
    have hle:=Nat.le_of_ble_eq_true hle
    have:=run_ret hrun2
    simp only [Prod.mk.injEq] at this
    rw [okShapes_map hsh fun i t=>viewC r (σ.get r).ver (x :: p' ++ [j,k+i]) (C.tr true t)] at this
    obtain ⟨rfl,rfl,rfl⟩:=this
    obtain ⟨b',off',cap',cs,e,hg',_,hw,_,hh⟩:=h.nested hnp hat (by omega)
    rw [hg] at hg'
    simp only [Option.some.injEq,Prod.mk.injEq,Addr.mk.injEq,and_true] at hg'
    obtain ⟨⟨rfl,rfl⟩,rfl⟩:=hg'
    obtain ⟨u,h1,h2⟩:=run_loadVar_cells (P:=P) (w:=w) (E:=E) (G:=G) (V:=σ'.V) t b o ((List.range (szA P t)).map fun i=>viewC r (σ'.get r).ver (x :: p' ++ [j,k+i]) (.tr true (f j (k+i)))) hok (by simp) (fun i c hi=>by
     simp only [List.getElem?_map] at hi
     obtain ⟨i',hi',rfl⟩:=Option.map_eq_some_iff.1 hi
     have hlt:i < szA P t:=by have:=(List.getElem?_eq_some_iff.1 hi').1;simpa using this
     have:i'=i:=by rw [List.getElem?_range hlt] at hi';exact (Option.some.inj hi').symm
     subst this
     obtain ⟨u,hu,hrel⟩:=hh j hj (k+i') (by omega)
     refine ⟨u,by rw [cell_of_row' hw,← hu];congr 1;omega,?_⟩
     have hrel':RelC E G σ'.V w (fun q=>G r ((x :: p' ++ [j,k+i']) ++ q)) (.tr true (f j (k+i'))) u:=by
      have:(fun q=>G r ((x :: p' ++ [j,k+i']) ++ q))=fun q=>G r (x :: p' ++ j :: (k+i') :: q):=by funext q;simp
      rw [this];exact hrel
     have:=RelC.view (pp:=x :: p' ++ [j,k+i']) hnp (by simp) hrel'
     exact this)
    exact ⟨rfl,b,o,u,rfl,h1,h2⟩
theorem ok_load {dst t x ty pos after guard}:OpOk P φ ⟨dst,.load t x,ty,pos,after,guard⟩ (opP P ⟨dst,.load t x,ty,pos,after,guard⟩):=by
 intro E σ a w L σ' L' ⟨G,hG,hp⟩ hrun K Q hK
 obtain ⟨c',σ1,L1,h1,h2⟩:=run_bind hrun
 obtain ⟨rfl,hrel⟩:=peek1_sound hG h1
 split at h2
 ·rename_i pt
  obtain ⟨row,σ1,L1,h3,h4⟩:=run_bind h2
  obtain ⟨rfl,b,o,u,hv,hl,hr⟩:=loadP_sound hG hrel h3
  refine wp_value (v:=u) (w':=w) (by simp [execOp,Instr.loadAt,hv,Instr.sureAddr,hl]) (hK _ _ (put_sound hG 0 (rows:=[row]) (by rw [hp 0];exact hr) h4))
 ·exact (run_fail h2).elim
theorem intC_some {c i} (h:intC c=some i):∃ o,c=.tr o (.int .i64 i):=by
 unfold intC at h
 split at h
 ·rename_i o n
  simp only [Option.some.injEq] at h
  subst h
  exact ⟨o,rfl⟩
 ·simp at h
theorem elemTy_some {t e} (h:elemTy P t=some e):P.underlying t=some (.slice e):=by
 unfold elemTy at h
 split at h
 ·rename_i e' hu
  simp only [Option.some.injEq] at h
  subst h
  exact hu
 ·simp at h
theorem isSz_some {m e} (h:isSz P m e=true):m=szOf P e∧m≠0:=by
 simp only [isSz,Bool.and_eq_true,Bool.not_eq_true'] at h
 refine ⟨beq_eq h.1,fun e=>?_⟩
 rw [e] at h
 simp [beqT] at h
theorem run_sizeOf0 {e:TypeId} {m:Nat} (h:m=szOf P e) (hm:m≠0):(sizeOf e).run P w=.ok m w:=by
 obtain ⟨i,hi,hs⟩:=info_of_sz (P:=P) (t:=e) (by rw [← h];exact hm)
 rw [run_sizeOf hi,hs,h]
theorem ok_indexAddr {dst t x i ty pos after guard}:OpOk P φ ⟨dst,.indexAddr t x i,ty,pos,after,guard⟩ (opP P ⟨dst,.indexAddr t x i,ty,pos,after,guard⟩):=by
 intro E σ a w L σ' L' ⟨G,hG,hp⟩ hrun K Q hK
 obtain ⟨c,σ1,L1,h1,h2⟩:=run_bind hrun
 obtain ⟨rfl,hrel⟩:=peek1_sound hG h1
 obtain ⟨ci,σ1,L1,h3,h4⟩:=run_bind h2
 obtain ⟨rfl,hreli⟩:=peek1_sound hG h3
 split at h4
 ·rename_i iv e hi he
  obtain ⟨oi,rfl⟩:=intC_some hi
  have hvi:=relInt hreli
  have hu:=elemTy_some he
  split at h4
  ·rename_i m n f
   obtain ⟨hb,h4⟩:=run_guard h4
   simp only [Bool.and_eq_true,decide_eq_true_eq,Nat.blt_eq] at hb
   obtain ⟨hi0,hin,hm⟩:=hb
   obtain ⟨hm1,hm2⟩:=isSz_some hm
   obtain ⟨A,cap,hv,hn,hh⟩:=hrel
   obtain ⟨b,off,rfl,hN,hc⟩:=hh (by omega)
   have hlt:iv < n:=by omega
   refine wp_value (v:=.pointer (some ⟨b,off+iv.toNat * m,none⟩)) (w':=w) ?_ (hK _ _ (put1_sound hG hp (c:=.pt (.pim m (f iv.toNat))) ⟨b,_,rfl,fun k hk=>⟨hN,?_⟩⟩ h4))
   ·have:(⟨b,off,none⟩:Addr).add (iv.toNat * m)=⟨b,off+iv.toNat * m,none⟩:=addr_add _ _ _
    simp [execOp,Instr.indexAt,hv,hvi,asIntOf,run_underlying hu,hi0,hlt,run_sizeOf0 hm1 hm2,this]
   ·obtain ⟨u,hu',hr⟩:=hc iv.toNat hin k hk
    exact ⟨u,by rw [Nat.add_assoc];exact hu',hr⟩
  ·rename_i r ver p m s n
   simp only [runHdr,hdI] at h4
   obtain ⟨hb,h4⟩:=run_guard h4
   simp only [Bool.and_eq_true,decide_eq_true_eq,Nat.blt_eq] at hb
   obtain ⟨hver,hi0,hin,hm⟩:=hb
   obtain ⟨hm1,hm2⟩:=isSz_some hm
   have hver:=beq_eq hver
   obtain ⟨A,cap,hv,hn,⟨hnp,hpn⟩,hle,hval⟩:=hrel
   have hlt:iv < n:=by omega
   have hn0:0 < n:=by omega
   have hval:=hval hver
   obtain ⟨b,off,c,hg,hA⟩:∃ b off c,G r p=some (⟨b,off,none⟩,c)∧A=some ⟨b,off+s * m,none⟩:=by
    rcases hval with ⟨_,h0,_⟩ | ⟨b,off,c,hg,_,hA⟩
    ·exact absurd h0 (by omega)
    ·exact ⟨b,off,c,hg,hA hn0⟩
   subst hA
   refine wp_value (v:=.pointer (some ⟨b,off+s * m+iv.toNat * m,none⟩)) (w':=w) ?_ (hK _ _ (put1_sound hG hp (c:=.pt (.ptr r ver p m (s+iv.toNat) 0)) ⟨b,_,rfl,⟨hnp,fun e=>absurd e hpn⟩,hle,fun _=>⟨off,c,hg,?_⟩⟩ h4))
   ·have:(⟨b,off+s * m,none⟩:Addr).add (iv.toNat * m)=⟨b,off+s * m+iv.toNat * m,none⟩:=addr_add _ _ _
    simp [execOp,Instr.indexAt,hv,hvi,asIntOf,run_underlying hu,hi0,hlt,run_sizeOf0 hm1 hm2,this]
   ·rw [Nat.add_mul];omega
  ·exact (run_fail h4).elim
 ·exact (run_fail h4).elim
def optV (lo:Option Int):Option Value:=lo.map fun i=>.int .i64 i
theorem optInt_sound {E σ G} (h:Rel E σ a w G) {x i L σ' L'} (hrun:(optInt x).run φ σ L=some (i,σ',L')):σ'=σ∧x.map a.eval=optV i:=by
 cases x with
 | none =>
  have:=run_ret (φ:=φ) hrun
  simp only [Prod.mk.injEq] at this
  obtain ⟨rfl,rfl,rfl⟩:=this
  exact ⟨rfl,rfl⟩
 | some x =>
  obtain ⟨c,σ1,L1,h1,h2⟩:=run_bind hrun
  obtain ⟨rfl,hrel⟩:=peek1_sound h h1
  split at h2
  ·rename_i i' hi
   have:=run_ret (φ:=φ) h2
   simp only [Prod.mk.injEq] at this
   obtain ⟨rfl,rfl,rfl⟩:=this
   obtain ⟨o,rfl⟩:=intC_some hi
   exact ⟨rfl,by simp [optV,relInt hrel]⟩
  ·exact (run_fail h2).elim
theorem run_sliceBounds (isS:Bool) (len cap:Nat) (lo hi:Option Int) (h0:0≤lo.getD 0) (h1:lo.getD 0≤hi.getD len) (h2:hi.getD len≤len) (h3:len≤cap) :
  (Instr.sliceBounds isS len cap (optV lo) (optV hi) none).run P w=.ok ((lo.getD 0).toNat,(hi.getD len).toNat,cap) w:=by
 have h4:hi.getD len≤(cap:Int):=by omega
 cases hi with
 | none =>
  cases lo with
  | none=>simp [Instr.sliceBounds,optV]
  | some l =>
   simp only [Option.getD_some,Option.getD_none] at *
   simp [Instr.sliceBounds,optV,Instr.sliceBound,asIntOf,h0,h1]
 | some hh =>
  cases lo with
  | none =>
   simp only [Option.getD_some,Option.getD_none] at *
   simp [Instr.sliceBounds,optV,Instr.sliceBound,asIntOf,h1,h4]
  | some l =>
   simp only [Option.getD_some] at *
   have h5:0≤hh:=by omega
   have h6:¬ (max hh 0 < l):=by omega
   simp [Instr.sliceBounds,optV,Instr.sliceBound,asIntOf,h0,h4,h5,h6]
theorem map_add (A:Option Addr) (b o n:Nat) (h:A=some ⟨b,o,none⟩):A.map (·.add n)=some ⟨b,o+n,none⟩:=by
 subst h
 simp [addr_add]
theorem ok_slice {dst t x lo hi ty pos after guard}:OpOk P φ ⟨dst,.slice t x lo hi none,ty,pos,after,guard⟩ (opP P ⟨dst,.slice t x lo hi none,ty,pos,after,guard⟩):=by
 intro E σ a w L σ' L' ⟨G,hG,hp⟩ hrun K Q hK
 obtain ⟨c,σ1,L1,h1,h2⟩:=run_bind hrun
 obtain ⟨rfl,hrel⟩:=peek1_sound hG h1
 obtain ⟨lo',σ1,L1,h3,h4⟩:=run_bind h2
 obtain ⟨rfl,hlo⟩:=optInt_sound hG h3
 obtain ⟨hi',σ1,L1,h5,h6⟩:=run_bind h4
 obtain ⟨rfl,hhi⟩:=optInt_sound hG h5
 split at h6
 ·rename_i g c' hs
  replace h6:=run_guard h6
  obtain ⟨hb,h7⟩:=h6
  unfold sliceC at hs
  split at hs
  ·rename_i e m n f hu
   simp only [Option.some.injEq,Prod.mk.injEq] at hs
   obtain ⟨rfl,rfl⟩:=hs
   simp only [Bool.and_eq_true,decide_eq_true_eq] at hb
   obtain ⟨hm,hb0,hb1,hb2⟩:=hb
   obtain ⟨hm1,hm2⟩:=isSz_some hm
   obtain ⟨A,cap,hv,hn,hh⟩:=hrel
   have hsb:=run_sliceBounds (P:=P) (w:=w) true n cap lo' hi' hb0 hb1 hb2 hn
   generalize hl:(lo'.getD 0).toNat=l at *
   generalize hhh:(hi'.getD (n:Int)).toNat=hh' at *
   have hlh:l≤hh':=by omega
   have hhn:hh'≤n:=by omega
   refine wp_value (v:=.slice (if cap=l then A else A.map (·.add (l * m))) (hh' - l) (cap - l)) (w':=w) ?_ (hK _ _ (put1_sound hG hp (c:=.tr false (.arr m (hh' - l) (cutT l (hh' - l) f))) ?_ h7))
   ·simp [execOp,Instr.sliceAt,Instr.slice,run_underlying hu,hv,hlo,hhi,hsb,run_sizeOf0 hm1 hm2]
   ·refine ⟨_,_,rfl,by omega,fun hpos=>?_⟩
    have hne:¬ cap=l:=by omega
    obtain ⟨b,off,hA,hN,hc⟩:=hh (by omega)
    rw [if_neg hne]
    refine ⟨b,off+l * m,map_add _ _ _ _ hA,hN,fun j hj k hk=>?_⟩
    obtain ⟨u,hu',hr⟩:=hc (l+j) (by omega) k hk
    refine ⟨u,?_,by rw [cutT_in k hj];exact hr⟩
    have:off+l * m+(j * m+k)=off+((l+j) * m+k):=by rw [Nat.add_mul];omega
    rw [this]
    exact hu'
  ·rename_i e r ver p m s n hu
   simp only [Option.some.injEq,Prod.mk.injEq] at hs
   obtain ⟨rfl,rfl⟩:=hs
   simp only [Bool.and_eq_true,decide_eq_true_eq] at hb
   obtain ⟨hm,hb0,hb1,hb2⟩:=hb
   obtain ⟨hm1,hm2⟩:=isSz_some hm
   obtain ⟨A,cap,hv,hn,hnp,hle,hval⟩:=hrel
   have hsb:=run_sliceBounds (P:=P) (w:=w) true n cap lo' hi' hb0 hb1 hb2 hn
   generalize hl:(lo'.getD 0).toNat=l at *
   generalize hhh:(hi'.getD (n:Int)).toNat=hh' at *
   have hlh:l≤hh':=by omega
   have hhn:hh'≤n:=by omega
   refine wp_value (v:=.slice (if cap=l then A else A.map (·.add (l * m))) (hh' - l) (cap - l)) (w':=w) ?_ (hK _ _ (put1_sound hG hp (c:=.ref r ver p m (s+l) (hh' - l)) ?_ h7))
   ·simp [execOp,Instr.sliceAt,Instr.slice,run_underlying hu,hv,hlo,hhi,hsb,run_sizeOf0 hm1 hm2]
   ·refine ⟨_,_,rfl,by omega,hnp,hle,fun hver=>?_⟩
    rcases hval hver with ⟨g0,rfl,rfl,rfl,rfl⟩ | ⟨b,off,c,hg,hA0,hA⟩
    ·left
     have:l=0:=by omega
     have:hh'=0:=by omega
     subst l
     subst hh'
     exact ⟨g0,by omega,by omega,by simp,by omega⟩
    ·right
     refine ⟨b,off,c,hg,fun h0=>?_,fun hpos=>?_⟩
     ·have hs0:s=0:=by omega
      have hl0:l=0:=by omega
      obtain ⟨hA1,hc⟩:=hA0 hs0
      subst hl0
      refine ⟨?_,by omega⟩
      split
      ·exact hA1
      ·rw [map_add _ _ _ _ hA1];simp
     ·have hne:¬ cap=l:=by omega
      rw [if_neg hne,map_add _ _ _ _ (hA (by omega)),Nat.add_mul,Nat.add_assoc]
  ·rename_i own str hu
   simp only [Option.some.injEq,Prod.mk.injEq] at hs
   obtain ⟨rfl,rfl⟩:=hs
   simp only [Bool.and_eq_true,decide_eq_true_eq] at hb
   obtain ⟨hb0,hb1,hb2⟩:=hb
   have hv:=relStr hrel
   have hsb:=run_sliceBounds (P:=P) (w:=w) false str.size str.size lo' hi' hb0 hb1 hb2 (Nat.le_refl _)
   refine wp_value (v:=.string (str.extract (lo'.getD 0).toNat (hi'.getD str.size).toNat)) (w':=w) ?_ (hK _ _ (put1_sound hG hp (c:=.tr true (.str (str.extract (lo'.getD 0).toNat (hi'.getD str.size).toNat))) rfl h7))
   simp [execOp,Instr.sliceAt,Instr.slice,run_underlying hu,hv,hlo,hhi,hsb]
  ·simp at hs
 ·exact (run_fail h6).elim
end
end Go.Mach
