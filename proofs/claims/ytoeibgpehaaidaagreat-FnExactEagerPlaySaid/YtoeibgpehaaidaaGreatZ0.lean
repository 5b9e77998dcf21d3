/- Lemmas and definitions of the proof (M1 M2 M3 M4 M5 M6). Conditions: none. -/
import GoSem.Step
import Derived.Laws.BytesArg
import Derived.Laws.Sem
import Derived.Orders
import Derived.WalkKit
set_option linter.all false
namespace Go.Mach
def slot (t:Nat):Nat:=4*t
def box (t:Nat):Nat:=4*t+1
def ext (t:Nat):Nat:=4*t+2
def park (t:Nat):Nat:=4*t+3
abbrev Path:=List Nat
/-- Versions: what lies at a path has turned so many times. -/
abbrev Ver:=Path→Nat
def z0:Ver:=fun _=>0
def b6y:Path→Path→Bool
 | [],_=>true
 | _::_,[]=>false
 | _::q,_::p=>b6y q p
/-- Columns are compared, rows are not. -/
def S8:Path→Path→Bool
 | [],_=>true
 | [_],[]=>false
 | [_],_::_=>true
 | _::_::_,[]=>false
 | _::_::_,[_]=>false
 | _::c::q,_::c'::p=>Nat.beq c c'&&S8 q p
/-- May a write at the first path turn what lies at the second? -/
def S0:Path→Path→Bool
 | i::k::q,i'::k'::p=>Nat.beq i i'&&(Nat.beq k k'&&S8 q p)
 | [],_=>true
 | [_],_::_=>true
 | _,_=>false
def bump (q:Path) (v:Ver):Ver:=fun p=>bif S0 q p then v p+1 else v p
def c3L:Path→Path→Bool
 | _,[]=>false
 | [],_::_=>true
 | _::q,_::p=>c3L q p
/-- May what lies under the first path lie at the second? -/
def a8b:Path→Path→Bool
 | i::k::q,i'::k'::p=>Nat.beq i i'&&(Nat.beq k k'&&c3L q p)
 | [],_::_=>true
 | [_],_::_=>true
 | _,_=>false
def E0 (q:Path) (v:Ver):Ver:=fun p=>bif a8b q p then v p+1 else v p
/-- A tree: what a cell holds, slices with their content (row, cell). -/
inductive T where
 | int (k:IntKind) (n:Int)
 | bool (b:Bool)
 | str (s:ByteArray)
 | arr (m n:Nat) (f:Nat→Nat→T)
 | hole
 | lent (m n:Nat)
/-- A pointer: to a cell of an array that a root owns, or into memory that nobody writes. -/
inductive Pt where
 | ptr (r:Nat) (ver:Nat) (p:Path) (m j k:Nat)
 | pim (m:Nat) (g:Nat→T)
/-- A cell of a slot or of a box. -/
inductive C where
 | tr (own:Bool) (t:T)
 | ref (r:Nat) (ver:Nat) (p:Path) (m s n:Nat)
 | pt (x:Pt)
 | fn (f:FuncId) (caps:List Pt)
 | dead
abbrev Row:=Bool × List C
structure Ct where
 ver:Ver
 rows:List Row
abbrev St:=List (Nat × Ct)
def St.get:St→Nat→Ct
 | [],_=>⟨z0,[]⟩
 | (r',c)::s,r=>bif Nat.beq r' r then c else St.get s r
def St.set:St→Nat→Ct→St
 | [],_,_=>[]
 | (r',c')::s,r,c=>bif Nat.beq r' r then (r',c)::s else (r',c')::St.set s r c
def St.has:St→Nat→Bool
 | [],_=>false
 | (r',_)::s,r=>bif Nat.beq r' r then true else St.has s r
def St.add (σ:St) (r:Nat):St:=bif σ.has r then σ else σ ++ [(r,⟨z0,[]⟩)]
/-- What is done to a root: it is read, written, read no deeper than a path, turned at a path, its cells' heads are read, what lies under a path is turned. -/
inductive Acc where
 | rd | wr
 | hd (p:Path)
 | up (q:Path)
 | tp
 | dn (q:Path)
abbrev Log:=List (Nat × Acc)
/-- An argument: 0 borrowed, 1 lent, 2 a lent variable (by its pointer), 3 handed over. -/
abbrev Arg:=Nat × Row
/-- What a call does: nothing is told, or it hands over these results and these lent rows. -/
abbrev CallK:=(R:Type)→R→(List Row→List Row→R)→R
def DetK (c:CallK):Prop:=(∀ R z K,c R z K=z)∨∃ rs outs,∀ R z K,c R z K=K rs outs
structure Sems where
 md:FuncId→List Nat
 run:FuncId→List Arg→CallK
 det:∀ f ags,DetK (run f ags)
/-! ### trees -/
def T.at:T→Path→Option T
 | t,[]=>some t
 | .arr m n f,j::k::q=>bif Nat.blt j n&&Nat.blt k m then (f j k).at q else none
 | _,_=>none
termination_by structural _ p=>p
def T.put:T→Path→T→Option T
 | _,[],u=>some u
 | .arr m n f,j::k::q,u=>bif Nat.blt j n&&Nat.blt k m then
   match (f j k).put q u with
   | some v=>some (.arr m n fun j' k'=>bif Nat.beq j' j&&Nat.beq k' k then v else f j' k')
   | none=>none
  else none
 | _,_,_=>none
termination_by structural _ p=>p
def T.okAt:T→Path→Bool
 | _,[]=>true
 | .arr m n f,j::k::q=>(Nat.blt j n&&Nat.blt k m)&&(f j k).okAt q
 | _,_=>false
termination_by structural _ p=>p
def T.get:T→Path→T
 | t,[]=>t
 | .arr _ _ f,j::k::q=>(f j k).get q
 | _,_=>.hole
termination_by structural _ p=>p
def b7 (j k:Nat) (v:T) (f:Nat→Nat→T) (j' k':Nat):T:=bif Nat.beq j' j&&Nat.beq k' k then v else f j' k'
def T.set:T→Path→T→T
 | _,[],u=>u
 | .arr m n f,j::k::q,u=>.arr m n (b7 j k ((f j k).set q u) f)
 | t,_,_=>t
termination_by structural _ p=>p
def T.wd:T→Nat
 | .arr m _ _=>m
 | _=>0
def T.ln:T→Nat
 | .arr _ n _=>n
 | _=>0
def T.fn:T→Nat→Nat→T
 | .arr _ _ f=>f
 | _=>fun _ _=>.hole
def T.isArr:T→Bool
 | .arr ..=>true
 | _=>false
def T.toI:T→Int
 | .int _ n=>n
 | _=>0
def T.toB:T→Bool
 | .bool b=>b
 | _=>false
def T.toS:T→ByteArray
 | .str s=>s
 | _=>ByteArray.empty
def T.isI (k:IntKind):T→Bool
 | .int k' _=>decide (k'=k)
 | _=>false
def T.isB:T→Bool
 | .bool _=>true
 | _=>false
def T.isS:T→Bool
 | .str _=>true
 | _=>false
/-- A part of an array's rows. -/
def l3 (s n:Nat) (f:Nat→Nat→T) (j k:Nat):T:=bif Nat.blt j n then f (s+j) k else .hole
/-- What a cell of a type is like (z: the type's zero). -/
def b5j:C→T→Bool
 | .tr _ (.int k _),u=>u.isI k
 | .tr _ (.bool _),u=>u.isB
 | .tr _ (.str _),u=>u.isS
 | .tr _ (.arr m _ _),u=>u.isArr&&Nat.beq u.wd m
 | _,_=>false
def c9I:C→T→T
 | .tr _ (.int k _),u=>.int k u.toI
 | .tr _ (.bool _),u=>.bool u.toB
 | .tr _ (.str _),u=>.str u.toS
 | .tr _ (.arr m _ _),u=>.arr m u.ln u.fn
 | _,u=>u
def a0L (zs:List C) (g:Nat→T):Nat→Bool
 | 0=>true
 | n+1=>a0L zs g n&&match zs[n]? with
  | some z=>b5j z (g n)
  | none=>false
def a1a (zs:List C) (g:Nat→T) (i:Nat):T:=match zs[i]? with
 | some z=>c9I z (g i)
 | none=>g i
def T.flat:T→Bool
 | .arr ..=>false
 | _=>true
/-- A scalar ags it is, nothing of an array. -/
def T.plain:T→T
 | .arr ..=>.hole
 | .lent ..=>.hole
 | t=>t
def rowsAt (rows:List Row):Path→Option T
 | i::k::q=>match rows[i]? with
  | some (_,cs)=>match cs[k]? with
   | some (.tr true t)=>t.at q
   | _=>none
  | none=>none
 | _=>none
def C3 (rows:List Row) (u:T):Path→Option (List Row)
 | i::k::q=>match rows[i]? with
  | some (g,cs)=>match cs[k]? with
   | some (.tr true t)=>match t.put q u with
    | some v=>some (rows.set i (g,cs.set k (.tr true v)))
    | none=>none
   | _=>none
  | none=>none
 | _=>none
def v6 (rows:List Row) (i k:Nat):T:=match rows[i]? with
 | some (_,cs)=>match cs[k]? with
  | some (.tr true t)=>t
  | _=>.hole
 | none=>.hole
def K4 (rows:List Row):Path→Bool
 | i::k::q=>match rows[i]? with
  | some (_,cs)=>match cs[k]? with
   | some (.tr true t)=>t.okAt q
   | _=>false
  | none=>false
 | _=>false
def E9 (rows:List Row):Path→T
 | i::k::q=>(v6 rows i k).get q
 | _=>.hole
def n8 (rows:List Row) (u:T):Path→List Row
 | i::k::q=>match rows[i]? with
  | some (g,cs)=>rows.set i (g,cs.set k (.tr true ((v6 rows i k).set q u)))
  | none=>rows
 | _=>rows
def Z9 {α β:Type} (g:Nat→α→β):Nat→List α→List β
 | _,[]=>[]
 | i,a::l=>g i a::Z9 g (i+1) l
/-! ### a cell is turned at a path; what such a turn leaves ags it is -/
def G9 (rows:List Row):Path→Bool
 | i::k::_=>match rows[i]? with
  | some (_,cs)=>match cs[k]? with
   | some (.tr true _)=>true
   | _=>false
  | none=>false
 | _=>false
def c5v (q:Path) (u:T) (ct:Ct):Ct:=⟨bump q ct.ver,n8 ct.rows u q⟩
/-- What a read no deeper than a path hands over: what is asked for, and cells. -/
abbrev Hd:=Bool × Bool × Bool × List C
def HdOk (p:Path) (g:Ct→Hd):Prop:=∀ ct q u,S0 q p=false→G9 ct.rows q=true→g (c5v q u ct)=g ct
def D2 (r:Nat) (ver:Ver) (p:Path):C→C
 | .tr true (.arr m n _)=>.ref r (ver p) p m 0 n
 | .tr true (.lent ..)=>.dead
 | c=>c
def O3 (r:Nat) (ver:Ver) (rows:List Row):List Row :=
 Z9 (fun i (row:Row)=>(row.1,Z9 (fun k c=>D2 r ver [i,k] c) 0 row.2)) 0 rows
/-- An array's content is another one, its head stays. -/
def T.reHd:T→T→T
 | .arr m n _,u=>.arr m n u.fn
 | t,_=>t
/-- What lies under an array's rows is turned. -/
def mvC (q:Path) (u:T) (ct:Ct):Ct:=⟨E0 q ct.ver,n8 ct.rows ((E9 ct.rows q).reHd u) q⟩
/-- Programs over the roots. -/
inductive Pr (α:Type) where
 | ret (a:α)
 | rd (r:Nat) (k:Ct→Pr α)
 | wr (r:Nat) (c:Ct) (k:Pr α)
 | hdr (r:Nat) (p:Path) (g:Ct→Hd) (hg:HdOk p g) (k:Hd→Pr α)
 | up (r:Nat) (q:Path) (u:T) (k:Pr α)
 | tp (r:Nat) (k:List Row→Pr α)
 | mv (r:Nat) (q:Path) (u:T) (k:Pr α)
 | call (f:FuncId) (args:List Arg) (k:List Row→List Row→Pr α)
 | ask (f:FuncId) (k:List Nat→Pr α)
 | br (b:Bool) (x y:Pr α)
 | fail
namespace Pr
def bind {α β:Type}:Pr α→(α→Pr β)→Pr β
 | ret a,g=>g a
 | rd r k,g=>rd r fun c=>(k c).bind g
 | wr r c k,g=>wr r c (k.bind g)
 | hdr r p h hh k,g=>hdr r p h hh fun x=>(k x).bind g
 | up r q u k,g=>up r q u (k.bind g)
 | tp r k,g=>tp r fun x=>(k x).bind g
 | mv r q u k,g=>mv r q u (k.bind g)
 | call f a k,g=>call f a fun c o=>(k c o).bind g
 | ask f k,g=>ask f fun m=>(k m).bind g
 | br b x y,g=>br b (x.bind g) (y.bind g)
 | fail,_=>fail
def run {α:Type} (φ:Sems):Pr α→St→Log→Option (α × St × Log)
 | ret a,σ,L=>some (a,σ,L)
 | rd r k,σ,L=>(k (σ.get r)).run φ σ ((r,.rd)::L)
 | wr r c k,σ,L=>bif σ.has r then k.run φ (σ.set r c) ((r,.wr)::L) else none
 | hdr r p g _ k,σ,L=>(k (g (σ.get r))).run φ σ ((r,.hd p)::L)
 | up r q u k,σ,L=>bif σ.has r&&G9 (σ.get r).rows q then k.run φ (σ.set r (c5v q u (σ.get r))) ((r,.up q)::L) else none
 | tp r k,σ,L=>(k (O3 r (σ.get r).ver (σ.get r).rows)).run φ σ ((r,.tp)::L)
 | mv r q u k,σ,L=>bif σ.has r&&G9 (σ.get r).rows q then k.run φ (σ.set r (mvC q u (σ.get r))) ((r,.dn q)::L) else none
 | call f a k,σ,L=>φ.run f a (Option (α × St × Log)) none fun rs outs=>(k rs outs).run φ σ L
 | ask f k,σ,L=>(k (φ.md f)).run φ σ L
 | br b x y,σ,L=>bif b then x.run φ σ L else y.run φ σ L
 | fail,_,_=>none
def evalK {α R:Type} (φ:Sems) (z:R):Pr α→St→Log→(α→St→Log→R)→R
 | ret a,σ,L,K=>K a σ L
 | rd r k,σ,L,K=>(k (σ.get r)).evalK φ z σ ((r,.rd)::L) K
 | wr r c k,σ,L,K=>bif σ.has r then k.evalK φ z (σ.set r c) ((r,.wr)::L) K else z
 | hdr r p g _ k,σ,L,K=>(k (g (σ.get r))).evalK φ z σ ((r,.hd p)::L) K
 | up r q u k,σ,L,K=>bif σ.has r&&G9 (σ.get r).rows q then k.evalK φ z (σ.set r (c5v q u (σ.get r))) ((r,.up q)::L) K else z
 | tp r k,σ,L,K=>(k (O3 r (σ.get r).ver (σ.get r).rows)).evalK φ z σ ((r,.tp)::L) K
 | mv r q u k,σ,L,K=>bif σ.has r&&G9 (σ.get r).rows q then k.evalK φ z (σ.set r (mvC q u (σ.get r))) ((r,.dn q)::L) K else z
 | call f a k,σ,L,K=>φ.run f a R z fun rs outs=>(k rs outs).evalK φ z σ L K
 | ask f k,σ,L,K=>(k (φ.md f)).evalK φ z σ L K
 | br b x y,σ,L,K=>bif b then x.evalK φ z σ L K else y.evalK φ z σ L K
 | fail,_,_,_=>z
end Pr
def o4 {α:Type} (b:Bool) (k:Pr α):Pr α:=.br b k .fail
def a0a {α β:Type} (g:α→Pr β):List α→Pr (List β)
 | []=>.ret []
 | a::l=>(g a).bind fun b=>(a0a g l).bind fun bs=>.ret (b::bs)
def a7n {α:Type} (rows:List Row) (p:Path) (k:Nat→Nat→(Nat→Nat→T)→Pr α):Pr α :=
 o4 (K4 rows p&&(E9 rows p).isArr) (k (E9 rows p).wd (E9 rows p).ln (E9 rows p).fn)
/-! ### values of the text -/
def c3M:Value→C
 | .int k n=>.tr true (.int k n)
 | .bool b=>.tr true (.bool b)
 | .string s=>.tr true (.str s)
 | .slice none 0 0=>.tr true (.arr 0 0 fun _ _=>.hole)
 | _=>.dead
def ofValue:Value→Option Row
 | .agg cs=>bif cs.toList.all (·.oneCell') then some (true,cs.toList.map c3M) else none
 | v=>bif v.oneCell' then some (false,[c3M v]) else none
/-! ### operands -/
def b4q (x:Operand):Pr (List Row) :=
 match x with
 | .tmp t=>.rd (slot t) fun ct=>.ret (O3 (slot t) ct.ver ct.rows)
 | .const v=>match ofValue v with
  | some r=>.ret [r]
  | none=>.fail
 | .func f=>.ret [(false,[.fn f []])]
 | .global _=>.fail
def d6U (x:Operand):Pr (List Row):=match x with
 | .tmp t=>.tp (slot t) fun rows=>.ret rows
 | x=>b4q x
def a2i (x:Operand):Pr Row:=(b4q x).bind fun rows=>match rows with
 | [r]=>.ret r
 | _=>.fail
def C0 (x:Operand):Pr C:=(a2i x).bind fun row=>match row with
 | (false,[c])=>.ret c
 | _=>.fail
def put (dst:Option Tmp) (rows:List Row):Pr Unit :=
 match dst with
 | some d=>.rd (slot d) fun ct=>.wr (slot d) ⟨bump [] ct.ver,rows⟩ (.ret ())
 | none=>.ret ()
def b0w (dst:Option Tmp) (c:C):Pr Unit:=put dst [(false,[c])]
def a1J (dst:Option Tmp) (t:T):Pr Unit:=b0w dst (.tr true t)
/-- Take the content of a cell away from where it lies. -/
def b6z:C→Pr C
 | .ref r ver p m s n=>bif Nat.beq (r % 4) 2 then .ret (.ref r ver p m s n) else .rd r fun ct=>a7n ct.rows p fun m' n' f=>o4 (Nat.beq (ct.ver p) ver&&(Nat.beq s 0&&(Nat.ble n n'&&Nat.beq m m'))) (.up r p .hole (.ret (.tr true (.arr m n f))))
 | c=>.ret c
/-- For a variable: what lies in an array's element of another variable stays there. -/
def d6V:C→Pr C
 | .ref r ver p m s n=>bif Nat.beq (r % 4) 1&&Nat.blt 2 p.length then .ret (.ref r ver p m s n) else b6z (.ref r ver p m s n)
 | c=>.ret c
def e6O:Pt→C→Pr C
 | .ptr _ _ [] _ _ _=>d6V
 | _=>b6z
def c2j (tk:C→Pr C) (row:Row):Pr Row:=(a0a tk row.2).bind fun cs=>.ret (row.1,cs)
def b1w (row:Row):Pr Row:=c2j b6z row
def b8t (tk:C→Pr C) (x:Operand):Pr Row:=(a2i x).bind (c2j tk)
def a8c (x:Operand):Pr Row:=b8t b6z x
/-- What a cell may bring into an array that a root owns. -/
def b1x:C→Option T
 | .tr true t=>some t
 | .tr false (.arr ..)=>none
 | .tr false (.lent ..)=>none
 | .tr false t=>some t
 | _=>none
def b6A:List C→Option (List T)
 | []=>some []
 | c::cs=>match b1x c,b6A cs with
  | some t,some ts=>some (t::ts)
  | _,_=>none
/-- A cell of a box, ags memory that nobody writes. -/
def imT:C→T
 | .tr _ t=>t
 | _=>.hole
def v3 (ts:List T) (i:Nat):T:=ts.getD i .hole
theorem e7t {cs:List C} {k i:Nat}:v3 ((cs.drop k).map imT) i=match cs[k+i]? with | some c=>imT c | none=>.hole:=by
 unfold v3
 rw [List.getD_eq_getElem?_getD,List.getElem?_map,List.getElem?_drop]
 cases cs[k+i]? <;> rfl
def b3w:Pt→Pr Pt
 | .ptr r ver p m j k=>.rd r fun ct=>o4 (Nat.beq (ct.ver p) ver) (match p with
  | []=>match ct.rows[j]? with
   | some (_,cs)=>o4 (Nat.beq m cs.length) (.ret (.pim (m - k) (v3 ((cs.drop k).map imT))))
   | none=>.fail
  | p=>a7n ct.rows p fun m' n' f=>o4 (Nat.beq m m'&&Nat.blt j n') (.ret (.pim (m - k) fun i=>f j (k+i))))
 | .pim m g=>.ret (.pim m g)
/-- The content of a cell, ags memory that nobody writes: for a call. -/
def b8u:C→Pr C
 | .tr _ t=>.ret (.tr false t)
 | .ref r ver p m s n=>.rd r fun ct=>a7n ct.rows p fun m' n' f=>o4 (Nat.beq (ct.ver p) ver&&(Nat.beq m m'&&Nat.ble (s+n) n')) (.ret (.tr false (.arr m n (l3 s n f))))
 | .pt x=>(b3w x).bind fun x=>.ret (.pt x)
 | .fn f caps=>(a0a b3w caps).bind fun caps=>.ret (.fn f caps)
 | .dead=>.fail
def d8M (row:Row):Pr Row:=(a0a b8u row.2).bind fun cs=>.ret (row.1,cs)
/-! ### types -/
section
variable (P:Program)
def m7 (t:TypeId):Nat:=match P.info? t with | some i=>i.size | none=>0
def bytesOf (t:TypeId):Nat:=match P.info? t with | some i=>i.bytes | none=>0
def a0M (t:TypeId):Bool:=match P.underlying t with | some (.struct _)=>true | some (.array ..)=>true | _=>false
/-- How many cells a variable's load hands over. -/
def szA (t:TypeId):Nat:=bif a0M P t then m7 P t else 1
/-- The types of a type's cells. -/
def d4t:Nat→TypeId→List TypeId
 | 0,t=>[t]
 | d+1,t=>match P.underlying t with
  | some (.struct fs)=>fs.toList.flatMap fun f=>d4t d f.type
  | _=>[t]
def e3q (t:TypeId):C→C
 | .tr true (.arr m n f)=>bif Nat.beq m 0 then match P.underlying t with
   | some (.slice e)=>.tr true (.arr (m7 P e) 0 fun _ _=>.hole)
   | _=>.tr true (.arr m n f)
  else .tr true (.arr m n f)
 | c=>c
def a0p:List TypeId→List C→List C
 | t::ts,c::cs=>e3q P t c::a0p ts cs
 | _,cs=>cs
def o8 (t:TypeId):Row:=match P.info? t with
 | some i=>match i.zero with
  | some v=>match ofValue v with
   | some r=>(r.1,a0p P (d4t P 20 t) r.2)
   | none=>(false,[])
  | none=>(false,[])
 | none=>(false,[])
def a2X (t:TypeId):Bool:=(P.underlying t).isSome
def b5k (t:TypeId) (k:Nat):Option (Nat × TypeId):=match P.underlying t with
 | some (.struct fs)=>match fs[k]? with
  | some f=>some (f.offset,f.type)
  | none=>none
 | _=>none
def a0q (t:TypeId):Option TypeId:=match P.underlying t with
 | some (.slice e)=>some e
 | _=>none
/-- A row's size, of a type that has cells. -/
def b8v (m:Nat) (e:TypeId):Bool:=Nat.beq m (m7 P e)&&!Nat.beq m 0
/-! ### what a turn leaves ags it is: the proofs -/
theorem a1K {q p:Path} (h:S0 q p=false) (v:Ver):bump q v p=v p:=by unfold bump;rw [h];rfl
theorem b3x {q:Path} {j k:Nat} {p:Path} (h:S0 q (j::k::p)=false):∃ i k' q',q=i::k'::q'∧(Nat.beq i j&&(Nat.beq k' k&&S8 q' p))=false:=by
 match q,h with
 | [],h=>simp [S0] at h
 | [_],h=>simp [S0] at h
 | i::k'::q',h=>exact ⟨i,k',q',rfl,h⟩
theorem c2k:∀ (q p l:Path),S8 q (p ++ l)=false→S8 q p=false
 | [],_,_,h=>by simp [S8] at h
 | [_],[],_,_=>rfl
 | [_],_::_,_,h=>by simp [S8] at h
 | _::_::_,[],_,_=>rfl
 | _::_::_,[_],_,_=>rfl
 | _::c::q,_::c'::p,l,h=>by
  simp only [List.cons_append,S8] at h ⊢
  cases h1:Nat.beq c c' with
  | false=>rfl
  | true =>
   rw [h1] at h
   exact c2k q p l h
theorem d8N {q p:Path} (l:Path) (hp:∃ i k p',p=i::k::p') (h:S0 q (p ++ l)=false):S0 q p=false:=by
 obtain ⟨i,k,p',rfl⟩:=hp
 obtain ⟨i',k',q',rfl,hd⟩:=b3x (p:=p' ++ l) h
 simp only [S0]
 cases h1:Nat.beq i' i with
 | false=>rfl
 | true=>cases h2:Nat.beq k' k with
  | false=>rfl
  | true =>
   rw [h1,h2] at hd
   exact c2k q' p' l hd
theorem a9o {a b:Nat} (h:Nat.beq a b=true):a=b:=Nat.eq_of_beq_eq_true h
/-- Two trees of the same head. -/
def b8w (t t':T):Prop:=t=t'∨∃ m n f f',t=.arr m n f∧t'=.arr m n f'
def c5w (k:Nat) (t t':T):Prop:=t=t'∨∃ m n f f',t=.arr m n f∧t'=.arr m n f'∧∀ a,b8w (f a k) (f' a k)
theorem c9J (t u:T):∀ {q:Path},q≠[]→b8w (t.set q u) t
 | [],h=>absurd rfl h
 | [x],_=>.inl (by cases t <;> rfl)
 | x::y::q,_=>by
  cases t with
  | arr m n f=>exact .inr ⟨m,n,_,f,rfl,rfl⟩
  | _=>exact .inl rfl
theorem c9K (u:T):∀ (p q:Path) (t:T),S8 q p=false→(t.set q u).okAt p=t.okAt p
 | [],q,t,h=>by simp only [T.okAt]
 | [x],q,t,h=>by
  have:∀ t:T,t.okAt [x]=false:=fun t=>by cases t <;> rfl
  rw [this,this]
 | a::b::p,[],t,h=>by simp [S8] at h
 | a::b::p,[_],t,h=>by simp [S8] at h
 | a::b::p,c::d::q,t,h=>by
  cases t with
  | arr m n f =>
   simp only [T.set,T.okAt,b7]
   cases h1:Nat.beq a c with
   | false=>rfl
   | true=>cases h2:Nat.beq b d with
    | false=>rfl
    | true =>
     have e1:=a9o h1;have e2:=a9o h2
     subst e1;subst e2
     simp only [Bool.and_self,cond_true]
     simp only [S8,Nat.beq_refl,Bool.true_and] at h
     rw [c9K u p q (f a b) h]
  | _=>rfl
theorem c9L (u:T) (j k:Nat):∀ (p q:Path) (t:T),S8 q (p ++ [j,k])=false→c5w k ((t.set q u).get p) (t.get p)
 | [],[],t,h=>by simp [S8] at h
 | [],[_],t,h=>by simp [S8] at h
 | [],c::d::q,t,h=>by
  cases t with
  | arr m n f =>
   refine .inr ⟨m,n,_,f,rfl,rfl,fun a=>?_⟩
   simp only [b7]
   cases hh:(Nat.beq a c&&Nat.beq k d) with
   | false=>exact .inl rfl
   | true =>
    simp only [Bool.and_eq_true] at hh
    have e1:=a9o hh.1;have e2:=a9o hh.2
    subst e1;subst e2
    exact c9J _ _ fun e=>by subst e;simp [S8] at h
  | _=>exact .inl rfl
 | [x],q,t,h=>by
  have:∀ t:T,t.get [x]=.hole:=fun t=>by cases t <;> rfl
  rw [this,this]
  exact .inl rfl
 | a::b::p,[],t,h=>by simp [S8] at h
 | a::b::p,[_],t,h=>by simp [S8] at h
 | a::b::p,c::d::q,t,h=>by
  cases t with
  | arr m n f =>
   simp only [T.set,T.get,b7]
   cases hh:(Nat.beq a c&&Nat.beq b d) with
   | false=>exact .inl rfl
   | true =>
    simp only [Bool.and_eq_true] at hh
    have e1:=a9o hh.1;have e2:=a9o hh.2
    subst e1;subst e2
    simp only [List.cons_append,S8,Nat.beq_refl,Bool.true_and] at h
    exact c9L u j k p q (f a b) h
  | _=>exact .inl rfl
theorem c9M {t t':T} (h:b8w t t') (z:C):b5j z t=b5j z t':=by
 rcases h with rfl | ⟨m,n,f,f',rfl,rfl⟩
 ·rfl
 ·cases z with
  | tr o x=>cases x <;> rfl
  | _=>rfl
theorem c5x {g g':Nat→T} (h:b8w (g 0) (g' 0)) (r:Nat) (v:Ver) (p:Path) (zs:List C) (i:Nat) (hi:i=0):D2 r v p (.tr true (a1a zs g i))=D2 r v p (.tr true (a1a zs g' i)):=by
 subst hi
 unfold a1a
 rcases h with h | ⟨m,n,f,f',h,h'⟩
 ·rw [h]
 ·rw [h,h']
  cases zs[0]? with
  | none=>rfl
  | some z=>cases z with
   | tr o x=>cases x <;> rfl
   | _=>rfl
/-- What a turn does to the rows. -/
theorem c5y {rows:List Row} {i k':Nat} {q':Path} {u:T} (h:G9 rows (i::k'::q')=true) :
  ∃ g cs t,rows[i]?=some (g,cs)∧cs[k']?=some (.tr true t)∧v6 rows i k'=t∧n8 rows u (i::k'::q')=rows.set i (g,cs.set k' (.tr true (t.set q' u))):=by
 simp only [G9] at h
 split at h
 ·rename_i g cs hi
  split at h
  ·rename_i t hk
   have hc:v6 rows i k'=t:=by simp only [v6,hi,hk]
   exact ⟨g,cs,t,hi,hk,hc,by simp only [n8,hi,hc]⟩
  ·cases h
 ·cases h
theorem a2Y {α:Type} {l:List α} {i:Nat} {x:α} (h:l[i]?=some x):i < l.length:=(List.getElem?_eq_some_iff.1 h).1
/-- Another cell is ags it was. -/
theorem e3r {rows:List Row} {i k':Nat} {q':Path} {u:T} (h:G9 rows (i::k'::q')=true) {j k:Nat} (hn:¬ (i=j∧k'=k)) :
  v6 (n8 rows u (i::k'::q')) j k=v6 rows j k∧∀ p,K4 (n8 rows u (i::k'::q')) (j::k::p)=K4 rows (j::k::p):=by
 obtain ⟨g,cs,t,hi,hk,_,e⟩:=c5y (u:=u) h
 rw [e]
 by_cases e1:i=j
 ·subst e1
  have e2:¬ k'=k:=fun e2=>hn ⟨rfl,e2⟩
  have hr:(rows.set i (g,cs.set k' (.tr true (t.set q' u))))[i]?=some (g,cs.set k' (.tr true (t.set q' u))):=by rw [List.getElem?_set_self (a2Y hi)]
  have hc:(cs.set k' (.tr true (t.set q' u)))[k]?=cs[k]?:=List.getElem?_set_ne e2
  refine ⟨by simp only [v6,hr,hi,hc],fun p=>by simp only [K4,hr,hi,hc]⟩
 ·have hr:(rows.set i (g,cs.set k' (.tr true (t.set q' u))))[j]?=rows[j]?:=List.getElem?_set_ne e1
  refine ⟨by simp only [v6,hr],fun p=>by simp only [K4,hr]⟩
theorem e3s {rows:List Row} {i k':Nat} {q':Path} {u:T} (h:G9 rows (i::k'::q')=true) :
  v6 (n8 rows u (i::k'::q')) i k'=(v6 rows i k').set q' u∧∀ p,K4 (n8 rows u (i::k'::q')) (i::k'::p)=((v6 rows i k').set q' u).okAt p∧K4 rows (i::k'::p)=(v6 rows i k').okAt p:=by
 obtain ⟨g,cs,t,hi,hk,hc,e⟩:=c5y (u:=u) h
 have hr:(rows.set i (g,cs.set k' (.tr true (t.set q' u))))[i]?=some (g,cs.set k' (.tr true (t.set q' u))):=by rw [List.getElem?_set_self (a2Y hi)]
 have hc':(cs.set k' (.tr true (t.set q' u)))[k']?=some (.tr true (t.set q' u)):=by rw [List.getElem?_set_self (a2Y hk)]
 rw [e,hc]
 exact ⟨by simp only [v6,hr,hc'],fun p=>⟨by simp only [K4,hr,hc'],by simp only [K4,hi,hk]⟩⟩
theorem b6B {α:Type}:∀ (l:List α) (k:Nat),(l.drop k).take 1=l[k]?.toList
 | [],k=>by simp
 | a::l,0=>by simp
 | a::l,k+1=>by simpa using b6B l k
/-! ### memory -/
/-- A cell of a variable, ags it is seen. -/
def hdB (P:Program) (t:TypeId) (r ver j k:Nat) (ct:Ct):Hd :=
 (Nat.beq (ct.ver []) ver,(match ct.rows[j]? with | some (_,cs)=>a2X P t&&Nat.ble (k+1) cs.length | none=>false),true,
  match ct.rows[j]? with | some (_,cs)=>Z9 (fun i c=>D2 r ct.ver [j,k+i] c) 0 ((cs.drop k).take 1) | none=>[])
theorem f0C (P:Program) (t:TypeId) (r ver j k:Nat):HdOk [j,k] (hdB P t r ver j k):=by
 intro ct q u ht hc
 obtain ⟨i,k',q',rfl,hd⟩:=b3x ht
 obtain ⟨g,cs,x,hi,hk,hcell,e⟩:=c5y (u:=u) hc
 unfold hdB c5v
 have hv:bump (i::k'::q') ct.ver []=ct.ver []:=a1K rfl _
 have hvp:bump (i::k'::q') ct.ver [j,k+0]=ct.ver [j,k+0]:=a1K ht _
 simp only [hv,e]
 by_cases e1:i=j
 ·subst e1
  have hr:(ct.rows.set i (g,cs.set k' (.tr true (x.set q' u))))[i]?=some (g,cs.set k' (.tr true (x.set q' u))):=by rw [List.getElem?_set_self (a2Y hi)]
  simp only [hr,hi,List.length_set,b6B]
  by_cases e2:k'=k
  ·subst e2
   have hq:q'≠[]:=fun e=>by
    subst e
    simp [S8,Nat.beq_refl] at hd
   rw [List.getElem?_set_self (a2Y hk),hk]
   simp only [Option.toList_some,Z9]
   congr 4
   rcases c9J x u hq with h | ⟨m,n,f,f',h1,h2⟩
   ·rw [h]
    cases x <;> simp only [D2,hvp]
   ·rw [h1,h2]
    simp only [D2,hvp]
  ·rw [List.getElem?_set_ne e2]
   cases cs[k]? with
   | none=>rfl
   | some c =>
    simp only [Option.toList_some,Z9]
    congr 4
    cases c with
    | tr o y=>cases o <;> cases y <;> simp only [D2,hvp]
    | _=>rfl
 ·have hr:(ct.rows.set i (g,cs.set k' (.tr true (x.set q' u))))[j]?=ct.rows[j]?:=List.getElem?_set_ne e1
  simp only [hr]
  cases ct.rows[j]? with
  | none=>rfl
  | some y =>
   obtain ⟨g',ds⟩:=y
   simp only [b6B]
   cases ds[k]? with
   | none=>rfl
   | some c =>
    simp only [Option.toList_some,Z9]
    congr 4
    cases c with
    | tr o y=>cases o <;> cases y <;> simp only [D2,hvp]
    | _=>rfl
/-- A cell of an array's element, ags it is seen. -/
def hdE (P:Program) (t:TypeId) (r ver:Nat) (p:Path) (m j k:Nat) (ct:Ct):Hd :=
 (Nat.beq (ct.ver p) ver,K4 ct.rows p&&(E9 ct.rows p).isArr,
  (a2X P t&&(Nat.beq m (E9 ct.rows p).wd&&(Nat.blt j (E9 ct.rows p).ln&&Nat.ble (k+1) m)))&&a0L (o8 P t).2 (fun i=>(E9 ct.rows p).fn j (k+i)) 1,
  (List.range 1).map fun i=>D2 r ct.ver (p ++ [j,k+i]) (.tr true (a1a (o8 P t).2 (fun i=>(E9 ct.rows p).fn j (k+i)) i)))
theorem f0D (P:Program) (t:TypeId) (r ver:Nat) (p:Path) (m j k:Nat) (hp:p≠[]):HdOk (p ++ [j,k]) (hdE P t r ver p m j k):=by
 intro ct q u ht hc
 have key:∀ (G G':T) (v v':Ver) (b b':Bool),v p=v' p→v (p ++ [j,k+0])=v' (p ++ [j,k+0])→b=b'→c5w k G G' →
   ((Nat.beq (v p) ver,b&&G.isArr,(a2X P t&&(Nat.beq m G.wd&&(Nat.blt j G.ln&&Nat.ble (k+1) m)))&&a0L (o8 P t).2 (fun i=>G.fn j (k+i)) 1,
    (List.range 1).map fun i=>D2 r v (p ++ [j,k+i]) (.tr true (a1a (o8 P t).2 (fun i=>G.fn j (k+i)) i))):Hd) =
   (Nat.beq (v' p) ver,b'&&G'.isArr,(a2X P t&&(Nat.beq m G'.wd&&(Nat.blt j G'.ln&&Nat.ble (k+1) m)))&&a0L (o8 P t).2 (fun i=>G'.fn j (k+i)) 1,
    (List.range 1).map fun i=>D2 r v' (p ++ [j,k+i]) (.tr true (a1a (o8 P t).2 (fun i=>G'.fn j (k+i)) i))):=by
  intro G G' v v' b b' h1 h2 h3 h4
  subst h3
  have hview:∀ c,D2 r v (p ++ [j,k+0]) c=D2 r v' (p ++ [j,k+0]) c:=fun c=>by
   cases c with
   | tr o y=>cases o <;> cases y <;> simp only [D2,h2]
   | _=>rfl
  rcases h4 with rfl | ⟨m0,n0,f,f',rfl,rfl,hf⟩
  ·rw [h1]
   simp only [List.range_one,List.map_cons,List.map_nil,hview]
  ·rw [h1]
   have hh:b8w ((fun i=>f j (k+i)) 0) ((fun i=>f' j (k+i)) 0):=hf _
   simp only [List.range_one,List.map_cons,List.map_nil,hview,T.isArr,T.wd,T.ln,T.fn,a0L]
   congr 3
   ·congr 1
    cases (o8 P t).2[0]? with
    | none=>rfl
    | some z=>exact congrArg _ (c9M hh z)
   ·rw [c5x (g:=fun i=>f j (k+i)) (g':=fun i=>f' j (k+i)) hh r v' _ _ 0 rfl]
 match p,hp,ht,key with
 | [x],_,ht,key =>
  obtain ⟨i,k',q',rfl,hd⟩:=b3x (p:=[k]) ht
  exact key _ _ (bump (i::k'::q') ct.ver) ct.ver _ _ (a1K rfl _) (a1K ht _) rfl (.inl rfl)
 | a::b::p',_,ht,key =>
  obtain ⟨i,k',q',rfl,hd⟩:=b3x (p:=p' ++ [j,k]) ht
  have hp1:S0 (i::k'::q') (a::b::p')=false:=d8N [j,k] ⟨a,b,p',rfl⟩ ht
  by_cases e:i=a∧k'=b
  ·obtain ⟨rfl,rfl⟩:=e
   have hl:S8 q' (p' ++ [j,k])=false:=by
    rw [show Nat.beq i i=true from Nat.beq_refl i,show Nat.beq k' k'=true from Nat.beq_refl k'] at hd
    exact hd
   obtain ⟨h1,h2⟩:=e3s (u:=u) hc
   refine key _ _ (bump (i::k'::q') ct.ver) ct.ver _ _ (a1K hp1 _) (a1K ht _) ?_ ?_
   ·show K4 (n8 ct.rows u (i::k'::q')) (i::k'::p')=K4 ct.rows (i::k'::p')
    rw [(h2 p').1,(h2 p').2]
    exact c9K u p' q' _ (c2k _ _ _ hl)
   ·show c5w k ((v6 (n8 ct.rows u (i::k'::q')) i k').get p') ((v6 ct.rows i k').get p')
    rw [h1]
    exact c9L u j k p' q' _ hl
  ·obtain ⟨h1,h2⟩:=e3r (u:=u) hc e
   refine key _ _ (bump (i::k'::q') ct.ver) ct.ver _ _ (a1K hp1 _) (a1K ht _) (h2 p') (.inl ?_)
   show (v6 (n8 ct.rows u (i::k'::q')) a b).get p'=(v6 ct.rows a b).get p'
   rw [h1]
/-- What an index asks for. -/
def hdI (b:Bool) (ver:Nat) (p:Path) (ct:Ct):Hd:=(Nat.beq (ct.ver p) ver&&b,true,true,[])
theorem f0E (b:Bool) (ver:Nat) (p:Path):HdOk p (hdI b ver p):=by
 intro ct q u ht _
 unfold hdI c5v
 simp only [a1K ht]
def c0y (t:TypeId) (r ver:Nat) (p:Path) (m j k:Nat):Pr Row:=.rd r fun ct=>o4 (Nat.beq (ct.ver p) ver) (match p with
  | []=>match ct.rows[j]? with
   | some (_,cs)=>o4 (a2X P t&&Nat.ble (k+szA P t) cs.length) (.ret (a0M P t,Z9 (fun i c=>D2 r ct.ver [j,k+i] c) 0 ((cs.drop k).take (szA P t))))
   | none=>.fail
  | p=>a7n ct.rows p fun m' n' f=>o4 ((a2X P t&&(Nat.beq m m'&&(Nat.blt j n'&&Nat.ble (k+szA P t) m)))&&a0L (o8 P t).2 (fun i=>f j (k+i)) (szA P t))
   (.ret (a0M P t,(List.range (szA P t)).map fun i=>D2 r ct.ver (p ++ [j,k+i]) (.tr true (a1a (o8 P t).2 (fun i=>f j (k+i)) i)))))
/-- One cell is loaded: nothing deeper is read. -/
def c9x (t:TypeId) (r ver:Nat) (p:Path) (m j k:Nat):Pr Row:=match p with
 | []=>.hdr r [j,k] (hdB P t r ver j k) (f0C P t r ver j k) fun x=>o4 x.1 (o4 x.2.1 (.ret (a0M P t,x.2.2.2)))
 | a::p=>.hdr r (a::p ++ [j,k]) (hdE P t r ver (a::p) m j k) (f0D P t r ver (a::p) m j k (List.cons_ne_nil a p)) fun x=>o4 x.1 (o4 x.2.1 (o4 x.2.2.1 (.ret (a0M P t,x.2.2.2))))
def c9y (t:TypeId):Pt→Pr Row
 | .pim m g=>o4 ((a2X P t&&Nat.ble (szA P t) m)&&a0L (o8 P t).2 g (szA P t)) (.ret (a0M P t,(List.range (szA P t)).map fun i=>.tr false (a1a (o8 P t).2 g i)))
 | .ptr r ver p m j k=>bif Nat.beq (szA P t) 1 then c9x P t r ver p m j k else c0y P t r ver p m j k
/-- One cell is written. -/
def b1f (p:Path) (j k:Nat) (c:C) (rows:List Row):Option (List Row):=match p with
 | []=>match rows[j]? with
  | some (g,old)=>bif Nat.blt k old.length then some (rows.set j (g,old.set k c)) else none
  | none=>none
 | p=>match b1x c with
  | some t=>C3 rows t (p ++ [j,k])
  | none=>none
def f0F:C→Bool
 | .tr _ (.arr ..)=>false
 | .tr _ _=>true
 | _=>false
def mOk (p:Path) (m:Nat) (rows:List Row):Bool:=match p with
 | []=>true
 | p=>K4 rows p&&((E9 rows p).isArr&&Nat.beq m (E9 rows p).wd)
def d6W (p:Path) (j k:Nat) (c:C) (rows:List Row):Bool:=match p with
 | []=>match rows[j]? with
  | some (_,old)=>Nat.blt k old.length
  | none=>false
 | p=>match b1x c with
  | some _=>K4 rows (p ++ [j,k])
  | none=>false
def c9N (p:Path) (j k:Nat) (c:C) (rows:List Row):List Row:=match p with
 | []=>match rows[j]? with
  | some (g,old)=>rows.set j (g,old.set k c)
  | none=>rows
 | p=>match b1x c with
  | some t=>n8 rows t (p ++ [j,k])
  | none=>rows
def b1g (r:Nat) (p:Path) (m j:Nat):Nat→Nat→List C→Pr Unit
 | _,_,[]=>.ret ()
 | ver,k,c::cs=>.rd r fun ct=>o4 ((Nat.beq (ct.ver p) ver&&(Nat.blt k m&&mOk p m ct.rows))&&d6W p j k c ct.rows) (.wr r ⟨bump (p ++ [j,k]) ct.ver,c9N p j k c ct.rows⟩ (b1g r p m j ver (k+1) cs))
def f0G (x:Pt) (cs:List C):Pr Unit :=
 match x with
 | .ptr r ver p m j k=>b1g r p m j ver k cs
 | _=>.fail
/-! ### arithmetic -/
def c9O (op:BinOp) (k:IntKind) (a b:Int):Option T :=
 match op with
 | .add=>some (.int k (k.wrap (a+b)))
 | .sub=>some (.int k (k.wrap (a - b)))
 | .mul=>some (.int k (k.wrap (a*b)))
 | .and=>some (.int k (k.wrap (BitVec.ofInt k.bits a &&& BitVec.ofInt k.bits b).toNat))
 | .or=>some (.int k (k.wrap (BitVec.ofInt k.bits a ||| BitVec.ofInt k.bits b).toNat))
 | .lss=>some (.bool (decide (a < b)))
 | .leq=>some (.bool (decide (a≤b)))
 | .gtr=>some (.bool (decide (b < a)))
 | .geq=>some (.bool (decide (b≤a)))
 | .eql=>some (.bool (a==b))
 | .neq=>some (.bool (a != b))
 | _=>none
def c9P (op:BinOp) (a b:ByteArray):Option T :=
 match op with
 | .eql=>some (.bool (a.toList==b.toList))
 | .neq=>some (.bool !(a.toList==b.toList))
 | _=>none
/-- Equality by a type of numbers, bools and structs of these: the cells from 'off' on. -/
def c9Q:Nat→TypeId→List C→List C→Nat→Option Bool
 | 0,_,_,_,_=>none
 | d+1,t,cs,ds,off=>match P.underlying t with
  | some (.int _)=>match cs[off]?,ds[off]? with
   | some (.tr _ (.int k a)),some (.tr _ (.int k' b))=>bif decide (k=k') then some (a==b) else none
   | _,_=>none
  | some .bool=>match cs[off]?,ds[off]? with
   | some (.tr _ (.bool a)),some (.tr _ (.bool b))=>some (a==b)
   | _,_=>none
  | some (.struct fs)=>bif P.stoodInHeld t then none else
   fs.toList.foldr (fun f r => bif f.name != "_" && (a2X P f.type && Nat.ble (f.offset + szA P f.type) (m7 P t)) then match c9Q d f.type cs ds (off + f.offset), r with
    | some x,some y=>some (bif x then y else false)
    | _,_=>none
    else none) (some true)
  | _=>none
def eqP (t:TypeId) (x y:Row):Option Bool :=
 match x,y with
 | (true,cs),(true,ds)=>bif P.eqGuardType P.depth t then none else match P.underlying t with
  | some (.struct _)=>bif Nat.beq cs.length (m7 P t)&&Nat.beq ds.length (m7 P t) then c9Q P 20 t cs ds 0 else none
  | _=>none
 | (false,[.tr _ (.bool a)]),(false,[.tr _ (.bool b)])=>match P.underlying t with
  | some .bool=>some (a==b)
  | _=>none
 | _,_=>none
def e3t (op:BinOp) (t:TypeId) (x y:Row):Pr T :=
 match x,y with
 | (false,[.tr _ (.int k a)]),(false,[.tr _ (.int k' b)])=>bif decide (k=k') then
   match op with
   | .quo=>o4 (!(b==0)) (.ret (.int k (k.wrap (a.tdiv b))))
   | .rem=>o4 (!(b==0)) (.ret (.int k (a.tmod b)))
   | op=>match c9O op k a b with
    | some t=>.ret t
    | none=>.fail
  else .fail
 | (false,[.tr _ (.str a)]),(false,[.tr _ (.str b)])=>match c9P op a b with
  | some t=>.ret t
  | none=>.fail
 | x,y=>match op,eqP P t x y with
  | .eql,some b=>.ret (.bool b)
  | .neq,some b=>.ret (.bool !b)
  | _,_=>.fail
/-! ### the operations -/
def e3u (d:Option TypeDesc) (c:C):Option Nat:=match d,c with
 | some (.slice _),.tr _ (.arr _ n _)=>some n
 | some .string,.tr _ (.str s)=>some s.size
 | some (.slice _),.ref _ _ _ _ _ n=>some n
 | _,_=>none
def c5z (off:Nat):Pt→Pt
 | .ptr r ver p m j k=>.ptr r ver p m j (k+off)
 | .pim m g=>.pim (m - off) fun i=>g (off+i)
/-- How many bytes a slice may take. -/
def lim:Nat:=70368744177664
/-- A scalar cell's part of an appended row. -/
def n6 (n:Nat) (f f':Nat→Nat→T) (j k:Nat):T:=bif Nat.blt j n then f j k else f' (j - n) k
def d6X (m n:Nat) (f:Nat→Nat→T) (n':Nat) (f':Nat→Nat→T):T:=.arr m (n+n') (n6 n f f')
def n7 (f:Nat→Nat→T) (j k:Nat):T:=(f j k).plain
def b8x:C→Option Int
 | .tr _ (.int .i64 i)=>some i
 | _=>none
def a5n:Nat→List C→List C→List C
 | _,[],cs=>cs
 | off,c::l,cs=>a5n (off+1) l (cs.set off c)
def b1y (t:TypeId):List (Nat × Row)→List C→Option (List C)
 | [],cs=>some cs
 | (i,r)::l,cs=>match b5k P t i with
  | some (off,ft)=>bif !Nat.beq (m7 P ft) 0&&(Nat.beq r.2.length (m7 P ft)&&Nat.ble (off+m7 P ft) cs.length) then b1y t l (a5n off r.2 cs) else none
  | none=>none
def a6a:List (Nat × Operand)→Pr (List (Nat × Row))
 | []=>.ret []
 | (i,x)::l=>(a8c x).bind fun r=>(a6a l).bind fun rs=>.ret ((i,r)::rs)
/-- the rows of a slice's literal: parts in ascending order, all of them -/
def b5l (m:Nat):Nat→List (Nat × Row)→Option (List (List T))
 | _,[]=>some []
 | i,(j,r)::l=>bif Nat.beq i j&&Nat.beq r.2.length m then match b6A r.2,b5l m (i+1) l with
  | some ts,some rs=>some (ts::rs)
  | _,_=>none
  else none
def i4 (rs:List (List T)) (j k:Nat):T:=(rs.getD j []).getD k .hole
def N9 (e:TypeId) (_j k:Nat):T:=match (o8 P e).2[k]? with
 | some (.tr true t)=>t
 | _=>.hole
def a2Z (e:TypeId):Bool:=Nat.beq (o8 P e).2.length (m7 P e)&&!Nat.beq (m7 P e) 0&&(o8 P e).2.all fun c=>match c with | .tr true _=>true | _=>false
def d8O (e:TypeId):Bool:=(o8 P e).2.all f0F
def b6C:List C→Option (List Pt)
 | []=>some []
 | .pt x::l=>match b6C l with
  | some ps=>some (x::ps)
  | none=>none
 | _=>none
def b4r (c:C):Pr C:=match b1x c with
 | some t=>.ret (.tr true t)
 | none=>.fail
def b8y (row:Row):Pr Row:=(a0a b4r row.2).bind fun cs=>.ret (row.1,cs)
/-- A cell's content is lent: the place keeps the header. -/
def c3N:C→Pr C
 | .ref r ver p m s n=>.rd r fun ct=>a7n ct.rows p fun m' n' f=>o4 (Nat.beq (ct.ver p) ver&&(Nat.beq s 0&&(Nat.beq n n'&&Nat.beq m m'))) (.wr r ⟨E0 p ct.ver,n8 ct.rows (.lent m n) p⟩ (.ret (.tr true (.arr m n f))))
 | c=>b4r c
def b3y (home out:C):Pr Unit:=match home,out with
 | .ref r _ p m _ n,.tr true (.arr m' n' f)=>.rd r fun ct=>o4 (Nat.beq m m'&&(Nat.beq n n'&&K4 ct.rows p)) (.wr r ⟨E0 p ct.ver,n8 ct.rows (.arr m' n' f) p⟩ (.ret ()))
 | .tr ..,_=>.ret ()
 | _,_=>.fail
def b5m:List C→List C→Pr Unit
 | [],[]=>.ret ()
 | c::cs,d::ds=>(b3y c d).bind fun _=>b5m cs ds
 | _,_=>.fail
/-- A variable's content is lent. -/
def c9z:C→Pr Row
 | .pt (.ptr r ver [] m 0 0)=>.rd r fun ct=>match ct.rows with
  | [row]=>o4 (Nat.beq (ct.ver []) ver&&Nat.beq m row.2.length) ((b8y row).bind fun row=>.wr r ⟨E0 [] ct.ver,[]⟩ (.ret row))
  | _=>.fail
 | _=>.fail
def c9A (home:C) (out:Row):Pr Unit:=match home with
 | .pt (.ptr r _ [] m 0 0)=>.rd r fun ct=>o4 (Nat.beq m out.2.length) (.wr r ⟨E0 [] ct.ver,[out]⟩ (.ret ()))
 | _=>.fail
/-- An operand at a parameter of type t: a constant nil gets its type. -/
def c2l (t:TypeId) (x:Operand):Pr Row:=(a2i x).bind fun row=>.ret (row.1,a0p P [t] row.2)
def c3O:List Nat→List TypeId→List Operand→Pr (List Row)
 | _,_,[]=>.ret []
 | md,ts,x::xs=>(bif Nat.beq (md.headD 0) 3 then (c2l P (ts.headD 0) x).bind fun row=>(b1w row).bind b8y else .ret (false,[])).bind fun r=>(c3O md.tail ts.tail xs).bind fun rs=>.ret (r::rs)
/-- The arguments that are lent. -/
def a4H:Nat→List Nat→List Operand→List (Nat × Nat × Operand)
 | _,_,[]=>[]
 | i,md,x::xs=>bif Nat.beq (md.headD 0) 1 || Nat.beq (md.headD 0) 2 then (i,md.headD 0,x)::a4H (i+1) md.tail xs else a4H (i+1) md.tail xs
def a0Y:C→List (Nat × Path)
 | .ref r _ p _ _ _=>[(r,p)]
 | _=>[]
def b5n (x y:Nat × Path):Bool:=!Nat.beq x.1 y.1 || (b6y x.2 y.2&&b6y y.2 x.2)
def a3M:List (Nat × Path)→Bool
 | []=>true
 | x::l=>l.all (b5n x)&&a3M l
/-- A row or a variable is lent: where it lies, and its content. -/
def e6P (t:Nat) (x:Operand):Pr (Row × Row) :=
 bif Nat.beq t 1 then (a2i x).bind fun row=>o4 (!row.2.isEmpty&&a3M (row.2.flatMap a0Y)) ((a0a c3N row.2).bind fun cs=>.ret (row,(row.1,cs)))
 else (C0 x).bind fun c=>(c9z c).bind fun row=>.ret ((false,[c]),row)
def e6Q (t:Nat) (home out:Row):Pr Unit :=
 bif Nat.beq t 1 then o4 (home.1==out.1) (b5m home.2 out.2) else match home with
  | (false,[c])=>c9A c out
  | _=>.fail
def c9B:List Nat→List TypeId→List Operand→List Row→Row→Pr (List Arg)
 | md,ty,x::xs,tr::ts,lr=>(bif Nat.beq (md.headD 0) 3 then .ret (3,tr) else bif Nat.beq (md.headD 0) 1 || Nat.beq (md.headD 0) 2 then .ret (md.headD 0,lr) else (c2l P (ty.headD 0) x).bind fun row=>(d8M row).bind fun row=>.ret (0,row)).bind fun r =>
  (c9B md.tail ty.tail xs ts lr).bind fun rs=>.ret (r::rs)
 | _,_,_,_,_=>.ret []
def goP (dst:Option Tmp) (f:FuncId) (caps:List Pt) (md:List Nat) (ty:List TypeId) (xs:List Operand) (ts:List Row) (lr:Row) (k:List Row→Pr Unit):Pr Unit :=
 (c9B P md ty xs ts lr).bind fun args=>(a0a b3w caps).bind fun caps=>.call f (args ++ caps.map fun c=>(0,(false,[.pt c]))) fun rows outs=>(k outs).bind fun _=>put dst rows
def e6R (dst:Option Tmp) (f:C) (ty:List TypeId) (xs:List Operand):Pr Unit:=match f with
 | .fn f caps=>.ask f fun md=>(c3O P md ty xs).bind fun ts=>match a4H 0 md xs with
  | []=>goP P dst f caps md ty xs ts (false,[]) fun _=>.ret ()
  | [(i,t,x)]=>(e6P t x).bind fun hl=>goP P dst f caps md ty xs ts hl.2 fun outs=>e6Q t hl.1 (outs.getD i (false,[]))
  | _=>.fail
 | _=>.fail
def e3v (t:TypeId) (dst:Option Tmp) (c:C):Pr Unit:=match e3u (P.underlying t) c with
 | some n=>a1J dst (.int .i64 n)
 | none=>.fail
def b6D (e:TypeId) (dst:Option Tmp) (m n:Nat) (f:Nat→Nat→T) (m' n':Nat) (f':Nat→Nat→T):Pr Unit :=
 o4 ((Nat.beq m (m7 P e) || Nat.beq m 0)&&((Nat.beq m' (m7 P e) || Nat.beq n' 0)&&(a2Z P e&&(Nat.ble ((n+n')*bytesOf P e) lim&&Nat.ble (n+n') lim))))
  (a1J dst (d6X (m7 P e) n f n' (n7 f')))
def d8P (e:TypeId) (dst:Option Tmp) (m n:Nat) (f:Nat→Nat→T) (m' n':Nat) (f':Nat→Nat→T):Pr Unit :=
 o4 ((Nat.beq m (m7 P e) || Nat.beq m 0)&&((Nat.beq m' (m7 P e) || Nat.beq n' 0)&&(a2Z P e&&(Nat.ble ((n+n')*bytesOf P e) lim&&Nat.ble (n+n') lim))))
  (a1J dst (d6X (m7 P e) n f n' f'))
/-- Rows s, .., s + n - 1 without their arrays. -/
def b4s (s n:Nat) (f:Nat→Nat→T) (j k:Nat):T:=bif Nat.ble s j&&Nat.blt j (s+n) then (f j k).plain else f j k
def shF (s:Nat) (f:Nat→Nat→T):Nat→Nat→T:=bif Nat.beq s 0 then f else fun j k=>f (s+j) k
/-- Rows are taken away from where they lie, their arrays with them. -/
def d6Y:C→Pr C
 | .ref r ver p m s n=>bif Nat.beq (r % 4) 2 then .fail else .rd r fun ct=>a7n ct.rows p fun m' n' f=>o4 (Nat.beq (ct.ver p) ver&&(Nat.ble (s+n) n'&&Nat.beq m m')) (.mv r p (.arr m n' (b4s s n f)) (.ret (.tr true (.arr m n (shF s f)))))
 | _=>.fail
def c5A (e:TypeId) (dst:Option Tmp) (x y:Operand):Pr Unit:=(a8c x).bind fun xr=>match xr with
 | (false,[.tr true (.arr m n f)])=>(C0 y).bind fun yc=>match yc with
  | .tr _ (.arr m' n' f')=>b6D P e dst m n f m' n' f'
  | .ref r ver p m' s n'=>bif d8O P e then (b8u (.ref r ver p m' s n')).bind fun c=>match c with
    | .tr _ (.arr m' n' f')=>b6D P e dst m n f m' n' f'
    | _=>.fail
   else (d6Y (.ref r ver p m' s n')).bind fun c=>match c with
    | .tr true (.arr m' n' f')=>d8P P e dst m n f m' n' f'
    | _=>.fail
  | _=>.fail
 | _=>.fail
/-- Rows s, .., s + c - 1 are others. -/
def Z8 (m s c:Nat) (g:Nat→Nat→T) (f:Nat→Nat→T) (j k:Nat):T:=bif Nat.blt k m&&(Nat.ble s j&&Nat.blt j (s+c)) then g j k else f j k
def c0z (r ver:Nat) (p:Path) (m s c:Nat) (g:Nat→Nat→T) (k:Pr Unit):Pr Unit :=
 .rd r fun ct=>a7n ct.rows p fun m0 n0 f=>o4 ((Nat.beq (ct.ver p) ver&&Nat.beq m0 m)&&Nat.ble (s+c) n0) (.wr r ⟨E0 p ct.ver,n8 ct.rows (.arr m0 n0 (Z8 m0 s c g f)) p⟩ k)
def d8Q (d:Option TypeDesc) (lo hi:Option Int) (c:C):Option (Bool × C):=match d,c with
 | some (.slice e),.tr false (.arr m n f) =>
  some (b8v P m e&&(decide (0≤lo.getD 0)&&(decide (lo.getD 0≤hi.getD n)&&decide (hi.getD n≤n))),.tr false (.arr m ((hi.getD n).toNat - (lo.getD 0).toNat) (l3 (lo.getD 0).toNat ((hi.getD n).toNat - (lo.getD 0).toNat) f)))
 | some (.slice e),.ref r ver p m s n =>
  some (b8v P m e&&(decide (0≤lo.getD 0)&&(decide (lo.getD 0≤hi.getD n)&&decide (hi.getD n≤n))),.ref r ver p m (s+(lo.getD 0).toNat) ((hi.getD n).toNat - (lo.getD 0).toNat))
 | some .string,.tr _ (.str s) =>
  some (decide (0≤lo.getD 0)&&(decide (lo.getD 0≤hi.getD s.size)&&decide (hi.getD s.size≤s.size)),.tr true (.str (s.extract (lo.getD 0).toNat (hi.getD s.size).toNat)))
 | _,_=>none
/-- Elements of one cell go over. -/
def d6Z (e:TypeId) (dst:Option Tmp) (r ver:Nat) (p:Path) (m s n:Nat) (m' n':Nat) (f':Nat→Nat→T):Pr Unit :=
 o4 ((Nat.beq m 1&&b8v P 1 e)&&(Nat.beq m' 1 || Nat.beq n' 0)) (.br (Nat.ble n' n) (c0z r ver p 1 s n' (fun j _=>(f' (j - s) 0).plain) (a1J dst (.int .i64 n'))) (c0z r ver p 1 s n (fun j _=>(f' (j - s) 0).plain) (a1J dst (.int .i64 n))))
def d7a (e:TypeId) (dst:Option Tmp) (x y:Operand):Pr Unit:=(C0 x).bind fun xc=>match xc with
 | .ref r ver p m s n=>(C0 y).bind fun yc=>match yc with
  | .tr _ (.arr m' n' f')=>d6Z P e dst r ver p m s n m' n' f'
  | .ref r' ver' p' m' s' n'=>(b8u (.ref r' ver' p' m' s' n')).bind fun c=>match c with
   | .tr _ (.arr m' n' f')=>d6Z P e dst r ver p m s n m' n' f'
   | _=>.fail
  | _=>.fail
 | _=>.fail
def c9R (e:TypeId) (x:Operand):Pr Unit:=(C0 x).bind fun xc=>match xc with
 | .ref r ver p m s n=>o4 (b8v P m e&&a2Z P e) (c0z r ver p m s n (fun _ k=>N9 P e 0 k) (.ret ()))
 | _=>.fail
def c9S:Option Operand→Pr (Option Int)
 | none=>.ret none
 | some x=>(C0 x).bind fun c=>match b8x c with
  | some i=>.ret (some i)
  | none=>.fail
def c9T (e:TypeId):Bool:=match P.underlying e with | some (.int .u8)=>true | _=>false
def c3P (n:Nat) (f:Nat→Nat→T):Bool:=(List.range n).all fun j=>(f j 0).isI .u8
def a7o (n:Nat) (f:Nat→Nat→T):List Int:=(List.range n).map fun j=>(f j 0).toI
def opP (o:Oper):Pr Unit :=
 match o.op with
 | .move x=>(d6U x).bind (put o.dst)
 | .assign x=>(a8c x).bind fun row=>put o.dst [(row.1,a0p P [o.type] row.2)]
 | .pick c a b=>(C0 c).bind fun c=>match c with
  | .tr _ (.bool p)=>.br p ((b4q a).bind (put o.dst)) ((b4q b).bind (put o.dst))
  | _=>.fail
 | .alloc e=>match o.dst with
  | some d=>o4 (Nat.beq (o8 P e).2.length (m7 P e)&&!Nat.beq (m7 P e) 0) (.rd (box d) fun ct=>.wr (box d) ⟨bump [] ct.ver,[o8 P e]⟩ (b0w o.dst (.pt (.ptr (box d) (ct.ver []+1) [] (m7 P e) 0 0))))
  | none=>.fail
 | .box e x=>match o.dst with
  | some d=>(a8c x).bind fun row=>o4 (Nat.beq row.2.length (m7 P e)&&!Nat.beq (m7 P e) 0) (.rd (box d) fun ct=>.wr (box d) ⟨bump [] ct.ver,[row]⟩ (b0w o.dst (.pt (.ptr (box d) (ct.ver []+1) [] (m7 P e) 0 0))))
  | none=>.fail
 | .load t a=>(C0 a).bind fun a=>match a with
  | .pt a=>(c9y P t a).bind fun row=>put o.dst [row]
  | _=>.fail
 | .store t a x=>(C0 a).bind fun a=>match a with
  | .pt a=>(b8t (e6O a) x).bind fun row=>o4 (Nat.beq row.2.length (m7 P t)&&!Nat.beq (m7 P t) 0) ((f0G a row.2).bind fun _=>put o.dst [(false,[])])
  | _=>.fail
 | .nilCheck x=>(C0 x).bind fun c=>match c with
  | .pt a=>b0w o.dst (.pt a)
  | .fn f caps=>b0w o.dst (.fn f caps)
  | _=>.fail
 | .fieldAddr t x k=>(C0 x).bind fun a=>match b5k P t k,a with
  | some (off,ft),.pt a=>bif Nat.beq (m7 P ft) 0 then .fail else b0w o.dst (.pt (c5z off a))
  | _,_=>.fail
 | .field t x k=>(a2i x).bind fun row=>match b5k P t k,row with
  | some (off,ft),(true,cs)=>o4 (a2X P ft&&Nat.ble (off+szA P ft) cs.length) (put o.dst [(a0M P ft,(cs.drop off).take (szA P ft))])
  | _,_=>.fail
 | .indexAddr t x i=>(C0 x).bind fun a=>(C0 i).bind fun i=>match b8x i,a0q P t with
  | some i,some e=>match a with
   | .tr false (.arr m n f)=>o4 (decide (0≤i)&&(Nat.blt i.toNat n&&b8v P m e)) (b0w o.dst (.pt (.pim m (f i.toNat))))
   | .ref r ver p m s n=>.hdr r p (hdI (decide (0≤i)&&(Nat.blt i.toNat n&&b8v P m e)) ver p) (f0E _ ver p) fun x=>o4 x.1 (b0w o.dst (.pt (.ptr r ver p m (s+i.toNat) 0)))
   | _=>.fail
  | _,_=>.fail
 | .index t x i=>(C0 x).bind fun a=>(C0 i).bind fun i=>match b8x i,P.underlying t,a with
  | some i,some .string,.tr _ (.str s)=>o4 (decide (0≤i)&&Nat.blt i.toNat s.size) (a1J o.dst (.int .u8 (s.data.getD i.toNat 0).toNat))
  | _,_,_=>.fail
 | .binOp op t x y _=>(a2i x).bind fun x=>(a2i y).bind fun y=>(e3t P op t x y).bind (a1J o.dst)
 | .unOp .not _ x=>(C0 x).bind fun x=>match x with
  | .tr _ (.bool b)=>a1J o.dst (.bool !b)
  | _=>.fail
 | .convert s d x=>(C0 x).bind fun x=>match P.underlying s,P.underlying d,x with
  | some (.int _),some (.int k),.tr _ (.int _ n)=>a1J o.dst (.int k (k.wrap n))
  | some (.slice e),some .string,.tr _ (.arr m n f)=>o4 (c9T P e&&(Nat.beq m 1&&c3P n f)) (a1J o.dst (.str (strOfNums (a7o n f))))
  | some (.slice e),some .string,.ref r ver p m s n=>.rd r fun ct=>a7n ct.rows p fun m' n' f=>o4 (Nat.beq (ct.ver p) ver&&(Nat.beq m m'&&(Nat.ble (s+n) n'&&(c9T P e&&(Nat.beq m 1&&c3P n (l3 s n f)))))) (a1J o.dst (.str (strOfNums (a7o n (l3 s n f)))))
  | _,_,_=>.fail
 | .extract x i=>(b4q x).bind fun rows=>match rows with
  | r::r'::rs=>match (r::r'::rs)[i]? with
   | some r=>put o.dst [r]
   | none=>.fail
  | _=>.fail
 | .makeFunc (.func f) first caps=>bif Nat.beq first.size 0 then (a0a C0 caps.toList).bind fun cs=>match b6C cs with
   | some caps=>b0w o.dst (.fn f caps)
   | none=>.fail
  else .fail
 | .makeSlice t l c=>(C0 l).bind fun l=>(C0 c).bind fun c=>match b8x l,b8x c,a0q P t with
  | some l,some c,some e=>o4 (decide (0≤l)&&(decide (l≤c)&&(Nat.ble (c.toNat*bytesOf P e) lim&&Nat.ble c.toNat lim))) (bif a2Z P e then a1J o.dst (.arr (m7 P e) l.toNat (l3 0 l.toNat (N9 P e))) else .fail)
  | _,_,_=>.fail
 | .slice t x lo hi none=>(C0 x).bind fun x=>(c9S lo).bind fun lo=>(c9S hi).bind fun hi=>match d8Q P (P.underlying t) lo hi x with
  | some (g,c)=>o4 g (b0w o.dst c)
  | none=>.fail
 | .build t ps=>match P.underlying t with
  | some (.struct fs)=>bif fs.toList.all (fun f=>a2X P f.type)&&((o8 P t).1&&!Nat.beq (o8 P t).2.length 0) then (a6a ps.toList).bind fun ps=>match b1y P t ps (o8 P t).2 with
    | some cs=>put o.dst [(true,cs)]
    | none=>.fail
   else .fail
  | _=>.fail
 | .buildSlice t len ps=>match a0q P t with
  | some e=>bif Nat.ble (len*m7 P e) 16777216&&(Nat.beq ps.size len&&a2Z P e) then (a6a ps.toList).bind fun ps=>match b5l (m7 P e) 0 ps with
    | some rs=>a1J o.dst (.arr (m7 P e) len (i4 rs))
    | none=>.fail
   else .fail
  | none=>.fail
 | .call c=>match c.callee with
  | .builtin .len=>match c.args.toList,c.argTypes.toList with
   | [x],[t]=>(C0 x).bind (e3v P t o.dst)
   | _,_=>.fail
  | .builtin .min=>match c.args.toList with
   | [x,y]=>(C0 x).bind fun x=>(C0 y).bind fun y=>match x,y with
    | .tr _ (.int k a),.tr _ (.int k' b)=>o4 (decide (k=k')) (a1J o.dst (.int k (if b < a then b else a)))
    | _,_=>.fail
   | _=>.fail
  | .builtin .append=>match c.args.toList,c.argTypes.toList with
   | [x,y],[t,t']=>bif Nat.beq t t' then match a0q P t with
     | some e=>c5A P e o.dst x y
     | none=>.fail
    else .fail
   | _,_=>.fail
  | .builtin .copy=>match c.args.toList,c.argTypes.toList with
   | [x,y],[t,_]=>match a0q P t with
    | some e=>d7a P e o.dst x y
    | none=>.fail
   | _,_=>.fail
  | .builtin .clear=>match o.dst,c.args.toList,c.argTypes.toList with
   | none,[x],[t]=>match a0q P t with
    | some e=>c9R P e x
    | none=>.fail
   | _,_,_=>.fail
  | .value f=>(C0 f).bind fun f=>e6R P o.dst f c.argTypes.toList c.args.toList
  | _=>.fail
 | _=>.fail
end
/-! ### regions -/
def b3z:List Row:=[(false,[])]
def c0A (P:Program) (ops:Array Oper) (o:Oper):Pr Unit:=match o.guard with
 | none=>opP P o
 | some (g,want)=>match (ops[g]?).bind (·.dst) with
  | some t=>.rd (slot t) fun ct=>match ct.rows with
   | [(false,[.tr _ (.bool b)])]=>.br (bif want then b else !b) (opP P o) (put o.dst b3z)
   | [(false,[])]=>put o.dst b3z
   | _=>.fail
  | none=>.fail
/-- May these two come in either order? -/
def a7p:Acc→Acc→Bool
 | .rd,.rd=>true
 | .rd,.hd _=>true
 | .hd _,.rd=>true
 | .hd _,.hd _=>true
 | .hd p,.up q=>!S0 q p
 | .up q,.hd p=>!S0 q p
 | .tp,.rd=>true
 | .rd,.tp=>true
 | .tp,.tp=>true
 | .tp,.hd _=>true
 | .hd _,.tp=>true
 | .tp,.dn _=>true
 | .dn _,.tp=>true
 | _,_=>false
def a7q (L L':Log):Bool:=L.all fun x=>L'.all fun y=>!Nat.beq x.1 y.1 || a7p x.2 y.2
/-- Bit j of number i: operation j comes before operation i, whatever order is drawn. -/
def a1L (acc:List Nat) (es:List Edge):Nat:=es.foldr (fun e s=>bif Region.binds .any e then (s ||| 2 ^ e.on) ||| acc.getD e.on 0 else s) 0
def a5o:List Oper→List Nat→List Nat
 | [],acc=>acc
 | o::l,acc=>a5o l (acc ++ [a1L acc o.after.toList])
def b1z (bef:List Nat):List (Nat × Log)→Bool
 | []=>true
 | (j,L)::rest=>(rest.all fun x=>Nat.testBit (bef.getD j 0) x.1 || a7q x.2 L)&&b1z bef rest
def a6b:List Oper→Nat→Bool
 | [],_=>true
 | o::l,i=>(o.after.toList.all fun e=>!Region.binds .any e || Nat.blt e.on i)&&a6b l (i+1)
def d4u (nt:Nat) (σ:St) (o:Oper):St:=match o.dst with
 | some d=>bif Nat.blt d nt then match o.op with
   | .alloc _=>(σ.add (slot d)).add (box d)
   | .box ..=>(σ.add (slot d)).add (box d)
   | _=>σ.add (slot d)
  else σ
 | none=>σ
def prep (nt:Nat):List Oper→St→St
 | [],σ=>σ
 | o::l,σ=>prep nt l (d4u nt σ o)
def c3Q (σ:St):Pt→C
 | .ptr r ver p m j k=>bif Nat.beq ((σ.get r).ver p) ver then .pt (.ptr r 0 p m j k) else .dead
 | .pim m g=>.pt (.pim m g)
def b8z (σ:St):List Pt→Option (List Pt)
 | []=>some []
 | x::l=>match c3Q σ x,b8z σ l with
  | .pt y,some l=>some (y::l)
  | _,_=>none
def c2m (σ:St):C→C
 | .tr false (.int k n)=>.tr true (.int k n)
 | .tr false (.bool b)=>.tr true (.bool b)
 | .tr false (.str s)=>.tr true (.str s)
 | .ref r ver p m s n=>bif Nat.beq ((σ.get r).ver p) ver then .ref r 0 p m s n else .dead
 | .pt x=>c3Q σ x
 | .fn f caps=>match b8z σ caps with
  | some caps=>.fn f caps
  | none=>.dead
 | c=>c
def a6c (σ:St) (rows:List Row):List Row:=rows.map fun row=>(row.1,row.2.map (c2m σ))
def b6E (r:Nat):List Nat→Bool
 | []=>false
 | x::l=>bif Nat.beq x r then true else b6E r l
def St.del (σ:St) (r:Nat):St:=σ.filter fun x=>!Nat.beq x.1 r
def a9p (σ:St):List Nat→St→St
 | [],_=>[]
 | r::keep,τ=>bif τ.has r then (r,⟨z0,a6c σ (τ.get r).rows⟩)::a9p σ keep (τ.del r) else a9p σ keep τ
def norm (keep:List Nat) (σ:St):St:=a9p σ keep σ
inductive Ex where
 | normal | exit (id:Nat) | ret
section
variable {R:Type} (P:Program) (φ:Sems) (keep:List Nat) (nt:Nat) (z:R)
/-- A guard is decided once. -/
def c9U (t:Tmp) (σ:St) (K:St→R):R:=match σ.get (slot t) with
 | ⟨ver,[(false,[.tr o (.bool b)])]⟩=>bif b then K (σ.set (slot t) ⟨ver,[(false,[.tr o (.bool true)])]⟩) else K (σ.set (slot t) ⟨ver,[(false,[.tr o (.bool false)])]⟩)
 | _=>K σ
def c9V (ops:Array Oper) (o:Oper) (σ:St) (K:St→R):R:=match o.guard with
 | none=>K σ
 | some (g,_)=>match (ops[g]?).bind (·.dst) with
  | some t=>c9U t σ K
  | none=>K σ
def c2n (ops:Array Oper):List Oper→Nat→St→List (Nat × Log)→(St→List (Nat × Log)→R)→R
 | [],_,σ,Ls,K=>K σ Ls
 | o::l,i,σ,Ls,K=>c9V ops o σ fun σ=>(c0A P ops o).evalK φ z σ [] fun _ σ L=>c2n ops l (i+1) σ ((i,L)::Ls) K
def c5B (ops:Array Oper) (draw:Bool) (σ:St) (K:St→R):R :=
 c2n P φ z ops ops.toList 0 (prep nt ops.toList σ) [] fun σ Ls=>bif !draw || (a6b ops.toList 0&&b1z (a5o ops.toList []) Ls) then K (norm keep σ) else z
end
/-- A condition's variable is dropped, but where nothing is done under it. -/
def dropC (c:Code) (t:Nat) (o:Bool) (σ:St):St:=match c with
 | .skip=>σ.set (slot t) ⟨(σ.get (slot t)).ver,[(false,[.tr o (.bool true)])]⟩
 | _=>σ.set (slot t) ⟨(σ.get (slot t)).ver,[]⟩
section
variable {R:Type} (P:Program) (φ:Sems) (kp:Nat→List Nat) (nt:Nat) (z:R)
def b3A (body:St→(Ex→St→R)→R):Nat→St→(Ex→St→R)→R
 | 0,_,_=>z
 | n+1,σ,K=>body σ fun e σ=>match e with
  | .normal=>b3A body n σ K
  | e=>K e σ
def O4 (n:Nat):Code→St→(Ex→St→R)→R
 | .skip,σ,K=>K .normal σ
 | .ret,σ,K=>K .ret σ
 | .exit i,σ,K=>K (.exit i) σ
 | .seq a b,σ,K=>O4 n a σ fun e σ=>match e with
  | .normal=>O4 n b σ K
  | e=>K e σ
 | .block i c,σ,K=>O4 n c σ fun e σ=>match e with
  | .exit j=>bif Nat.beq j i then K .normal σ else K (.exit j) σ
  | e=>K e σ
 | .cond c a b,σ,K=>match c with
  | .tmp t=>match (σ.get (slot t)).rows with
   | [(false,[.tr o (.bool p)])]=>bif p then O4 n a (dropC a t o σ) K else O4 n b (σ.set (slot t) ⟨(σ.get (slot t)).ver,[]⟩) K
   | _=>z
  | .const (.bool p)=>bif p then O4 n a σ K else O4 n b σ K
  | _=>z
 | .loop c,σ,K=>b3A z (O4 n c) n σ K
 | .region i ops draw,σ,K=>c5B P φ (kp i) nt z ops draw σ (K .normal)
 | _,_,_=>z
end
/-! ### functions -/
def d3 (fn:Func):Code:=match fn.body with | some c=>c | none=>.skip
/-- What is kept behind each region (what is not listed: nothing). -/
def a8d:List (Nat × List Nat)→Nat→List Nat
 | [],_=>[]
 | (j,l)::kp,i=>bif Nat.beq j i then l else a8d kp i
def b8A (nt i:Nat) (x:Arg):Row :=
 bif Nat.beq x.1 1 then (x.2.1,Z9 (fun k c=>D2 (ext i) z0 [0,k] c) 0 x.2.2)
 else bif Nat.beq x.1 2 then (false,[.pt (.ptr (box (nt+i)) 0 [] x.2.2.length 0 0)])
 else x.2
def c5C (nt i:Nat) (x:Arg) (σ:St):St :=
 bif Nat.beq x.1 1 then (ext i,⟨z0,[x.2]⟩)::σ else bif Nat.beq x.1 2 then (box (nt+i),⟨z0,[x.2]⟩)::σ else σ
def B5 (nt:Nat):Nat→List Arg→St
 | _,[]=>[]
 | i,x::l=>(slot i,⟨z0,[b8A nt i x]⟩)::c5C nt i x (B5 nt (i+1) l)
def c0B (P:Program):ResultVar→Pr Row
 | .tmp t=>(a2i (.tmp t)).bind fun row=>(b1w row).bind fun row=>(a0a b4r row.2).bind fun cs=>.ret (row.1,cs)
 | .cell t ty=>(C0 (.tmp t)).bind fun a=>match a with
  | .pt a=>(c9y P ty a).bind fun row=>(b1w row).bind fun row=>(a0a b4r row.2).bind fun cs=>.ret (row.1,cs)
  | _=>.fail
/-- What the lent arguments hold behind the call. -/
def e3w (nt i t:Nat):Pr Row :=
 bif Nat.beq t 1 then .rd (ext i) fun ct=>match ct.rows with
  | [row]=>b8y row
  | _=>.fail
 else bif Nat.beq t 2 then .rd (box (nt+i)) fun ct=>match ct.rows with
  | [row]=>b8y row
  | _=>.fail
 else .ret (false,[])
def d7b (nt:Nat):Nat→List Nat→Pr (List Row)
 | _,[]=>.ret []
 | i,t::l=>(e3w nt i t).bind fun r=>(d7b nt (i+1) l).bind fun rs=>.ret (r::rs)
def R4 {R:Type} (P:Program) (φ:Sems) (z:R) (fn:Func) (ts:List Nat) (σ:St) (K:List Row→List Row→R):R :=
 ((a0a (c0B P) fn.results.toList).bind fun rows=>(d7b fn.ntmps 0 ts).bind fun outs=>.ret (rows,outs)).evalK φ z σ [] fun r _ _=>K r.1 r.2
/-- One call, the calls in it by 'φ', with at most n rounds of each loop: the results, and what is lent behind it. -/
def body (P:Program) (φ:Sems) (kp:List (Nat × List Nat)) (n:Nat) (fn:Func) (args:List Arg):Option (List Row × List Row) :=
 bif Nat.beq args.length (fn.params.size+fn.nfree)&&Nat.ble args.length fn.ntmps then
  O4 P φ (a8d kp) fn.ntmps none n (d3 fn) (B5 fn.ntmps 0 args) fun e σ=>match e with
   | .exit _=>none
   | _=>R4 P φ none fn (args.map (·.1)) σ fun rows outs=>some (rows,outs)
 else none
end Go.Mach
namespace Go.Mach
abbrev Gh:=Path→Option (Addr × Nat)
/-- A cell whose memory nobody writes. -/
def V3 (w:World) (N:Nat→Prop):T→Value→Prop
 | .int k n,v=>v=.int k n
 | .bool b,v=>v=.bool b
 | .str s,v=>v=.string s
 | .hole,v=>v.oneCell'=true
 | .lent _ _,v=>v.oneCell'=true
 | .arr m n f,v=>∃ A cap,v=.slice A n cap∧n≤cap∧(0 < n→∃ b off,A=some ⟨b,off,none⟩∧N b ∧
   ∀ j,j < n→∀ k,k < m→∃ u,w.cell? ⟨b,off+(j*m+k),none⟩=some u∧V3 w N (f j k) u)
/-- A cell whose memory the root owns that it lies in: 'g' tells the arrays' places. -/
def RelOwn (w:World):T→Gh→Value→Prop
 | .int k n,_,v=>v=.int k n
 | .bool b,_,v=>v=.bool b
 | .str s,_,v=>v=.string s
 | .hole,_,v=>v.oneCell'=true
 | .lent m n,g,v=>(g []=none∧n=0∧v=.slice none 0 0)∨∃ b off cap,g []=some (⟨b,off,none⟩,cap)∧v=.slice (some ⟨b,off,none⟩) n cap∧(n≤cap∧0 < m)
 | .arr m n f,g,v=>(g []=none∧n=0∧v=.slice none 0 0) ∨
   ∃ b off cap cs e,g []=some (⟨b,off,none⟩,cap)∧v=.slice (some ⟨b,off,none⟩) n cap∧(n≤cap∧0 < m)∧w.heap[b]?=some (.cells cs e (0,0))∧off+cap*m≤cs.size ∧
    ∀ j,j < n→∀ k,k < m→∃ u,cs[off+(j*m+k)]?=some u∧RelOwn w (f j k) (fun q=>g (j::k::q)) u
structure Env where
 w0:World
 D:Nat→Prop
 nt:Nat
 x:Nat→Value
 xb:Nat→Option (Addr × Nat)
def Env.N (E:Env) (b:Nat):Prop:=b < E.w0.heap.size∧¬ E.D b
abbrev GG:=Nat→Gh
def notPark (r:Nat):Prop:=r % 4≠3
def R1 (E:Env) (G:GG) (V:Nat→Ver):Pt→Value→Prop
 | .ptr r ver p m j k,v=>∃ b o,v=.pointer (some ⟨b,o,none⟩)∧(notPark r∧(p=[]→r % 4=1))∧ver≤V r p∧(V r p=ver→∃ off cap,G r p=some (⟨b,off,none⟩,cap)∧o=off+(j*m+k))
 | .pim m g,v=>∃ b off,v=.pointer (some ⟨b,off,none⟩)∧∀ i,i < m→E.N b∧∃ u,E.w0.cell? ⟨b,off+i,none⟩=some u∧V3 E.w0 E.N (g i) u
def l4 (E:Env) (G:GG) (V:Nat→Ver) (w:World) (g:Gh):C→Value→Prop
 | .tr true t,v=>RelOwn w t g v
 | .tr false t,v=>V3 E.w0 E.N t v
 | .ref r ver p m s n,v=>∃ A cap,v=.slice A n cap∧n≤cap∧(notPark r∧p≠[])∧ver≤V r p∧(V r p=ver→(G r p=none∧n=0∧s=0∧A=none∧cap=0) ∨
   ∃ b off c,G r p=some (⟨b,off,none⟩,c)∧(s=0→A=some ⟨b,off,none⟩∧cap=c)∧(0 < n→A=some ⟨b,off+s*m,none⟩))
 | .pt x,v=>R1 E G V x v
 | .fn f caps,v=>∃ vs:Array Value,v=.func (.func f) #[] vs∧vs.size=caps.length∧∀ (i:Nat) x,caps[i]?=some x→∃ u,vs[i]?=some u∧R1 E G V x u
 | .dead,v=>v.oneCell'=true
def RelCs (E:Env) (G:GG) (V:Nat→Ver) (w:World) (g:Nat→Gh) (cs:List C) (vs:Array Value):Prop :=
 vs.size=cs.length∧∀ (k:Nat) c,cs[k]?=some c→∃ u,vs[k]?=some u∧l4 E G V w (g k) c u
def i7 (E:Env) (G:GG) (V:Nat→Ver) (w:World) (g:Nat→Gh):Row→Value→Prop
 | (false,[]),v=>v=undef
 | (false,[c]),v=>l4 E G V w (g 0) c v
 | (false,_::_::_),_=>False
 | (true,cs),v=>∃ vs,v=.agg vs∧RelCs E G V w g cs vs
def RelRows (E:Env) (G:GG) (V:Nat→Ver) (w:World) (g:Gh):List Row→Value→Prop
 | [],_=>True
 | [row],v=>i7 E G V w (fun k q=>g (0::k::q)) row v
 | r::r'::rs,v=>∃ vs:Array Value,v=.tuple vs∧vs.size=(r::r'::rs).length∧∀ (i:Nat) row,(r::r'::rs)[i]?=some row→∃ u,vs[i]?=some u∧i7 E G V w (fun k q=>g (i::k::q)) row u
def noG:Gh:=fun _=>none
/-- The state speaks truly of the frame and the world. -/
structure Rel (E:Env) (σ:St) (a:Act) (w:World) (G:GG):Prop where
 nd:(σ.map (·.1)).Nodup
 inj:∀ r p r' p' ad c ad' c',G r p=some (ad,c)→G r' p'=some (ad',c')→ad.block=ad'.block→r=r'∧p=p'
 rng:∀ r p ad c,G r p=some (ad,c)→(E.w0.heap.size≤ad.block∨E.D ad.block)∧ad.block < w.heap.size
 os:w.os=E.w0.os
 tape:w.tape=E.w0.tape
 output:w.output=E.w0.output
 size:E.w0.heap.size≤w.heap.size
 kept:∀ b,E.N b→w.heap[b]?=E.w0.heap[b]?
 slots:∀ t,RelRows E G (fun r=>(σ.get r).ver) w (G (slot t)) (σ.get (slot t)).rows (a.tmps.getD t undef)
 boxes:∀ t,(σ.get (box t)).rows=[]∨∃ row b cs e,(σ.get (box t)).rows=[row]∧G (box t) []=some (⟨b,0,none⟩,1)∧w.heap[b]?=some (.cells cs e (0,0)) ∧
  RelCs E G (fun r=>(σ.get r).ver) w (fun k q=>G (box t) (0::k::q)) row.2 cs
 exts:∀ t,RelRows E G (fun r=>(σ.get r).ver) w (G (ext t)) (σ.get (ext t)).rows (E.x t)
 xbox:∀ t,E.nt≤t→G (box t) []=E.xb t
 defers:a.defers=[]
 tm:a.tmps.size=E.nt
 here:∀ t,σ.has (slot t)=true→t < E.nt
theorem b1h {s n:Nat} {f:Nat→Nat→T} {j:Nat} (k:Nat) (h:j < n):l3 s n f j k=f (s+j) k:=by
 have:Nat.blt j n=true:=by rw [Nat.blt_eq];exact h
 simp only [l3,this,cond_true]
theorem c9W (v:Ver) (p:Path):bump [] v p=v p+1:=by
 unfold bump S0
 rfl
theorem c9X:∀ {q p:Path},q <+: p→S8 q p=true
 | [],_,_=>by simp [S8]
 | [_],[],h=>by simp at h
 | [_],_::_,_=>by simp [S8]
 | _::_::_,[],h=>by simp at h
 | _::_::_,[_],h=>by simp at h
 | a::c::q,b::d::p,h=>by
  rw [List.cons_prefix_cons,List.cons_prefix_cons] at h
  obtain ⟨rfl,rfl,h⟩:=h
  simp only [S8,Nat.beq_refl,Bool.true_and]
  exact c9X h
theorem d8R {q p:Path} (h:q <+: p):S0 q p=true:=by
 match q,p,h with
 | [],_,_=>unfold S0;rfl
 | [_],[],h=>simp at h
 | [_],_::_,_=>unfold S0;rfl
 | _::_::_,[],h=>simp at h
 | _::_::_,[_],h=>simp at h
 | i::k::q,i'::k'::p,h =>
  rw [List.cons_prefix_cons,List.cons_prefix_cons] at h
  obtain ⟨rfl,rfl,h⟩:=h
  simp [S0,c9X h]
theorem d4v (q:Path) (v:Ver) (p:Path):v p≤bump q v p:=by
 unfold bump
 cases S0 q p <;> simp
theorem d4w {q:Path} {v:Ver} {p:Path} (h:bump q v p=v p):¬ q <+: p:=fun hp=>by
 unfold bump at h
 rw [d8R hp] at h
 simp at h
theorem c7D:∀ {q p:Path},q <+: p→q≠p→c3L q p=true
 | [],[],_,h=>absurd rfl h
 | [],_::_,_,_=>rfl
 | a::q,[],h,_=>by simp at h
 | a::q,b::p,h,hne=>by
  rw [List.cons_prefix_cons] at h
  obtain ⟨rfl,h⟩:=h
  show c3L q p=true
  exact c7D h fun e=>hne (by rw [e])
theorem e3x {q p:Path} (h:q <+: p) (hne:q≠p):a8b q p=true:=by
 match q,p,h,hne with
 | [],[],_,hne=>exact absurd rfl hne
 | [],_::_,_,_=>rfl
 | [_],[],h,_=>simp at h
 | [_],_::_,_,_=>rfl
 | _::_::_,[],h,_=>simp at h
 | _::_::_,[_],h,_=>simp at h
 | i::k::q,i'::k'::p,h,hne =>
  rw [List.cons_prefix_cons,List.cons_prefix_cons] at h
  obtain ⟨rfl,rfl,h⟩:=h
  have:=c7D h fun e=>hne (by rw [e])
  simp [a8b,this]
theorem b1A (q:Path) (v:Ver) (p:Path):v p≤E0 q v p:=by
 unfold E0
 cases a8b q p <;> simp
theorem b1B {q:Path} {v:Ver} {p:Path} (h:E0 q v p=v p):¬ (q <+: p∧q≠p):=fun ⟨hp,hne⟩=>by
 unfold E0 at h
 rw [e3x hp hne] at h
 simp at h
theorem c7E:∀ {q p:Path},b6y q p=true↔q.length≤p.length
 | [],_=>by simp [b6y]
 | _::_,[]=>by simp [b6y]
 | _::q,_::p=>by simp [b6y,c7E (q:=q) (p:=p)]
/-! ### states ags lists -/
theorem E4 {a b:Nat} (h:a≠b):Nat.beq a b=false:=by
 cases e:Nat.beq a b
 ·rfl
 ·exact absurd (Nat.eq_of_beq_eq_true e) h
theorem E5 (a:Nat):Nat.beq a a=true:=Nat.beq_refl a
theorem j8 {a b:Nat} (h:Nat.beq a b=true):a=b:=Nat.eq_of_beq_eq_true h
theorem n9 (σ:St) (r r':Nat) (c:Ct):(σ.set r c).get r'=if r=r'∧σ.has r=true then c else σ.get r':=by
 induction σ with
 | nil=>simp [St.set,St.get,St.has]
 | cons x σ ih =>
  obtain ⟨r0,c0⟩:=x
  by_cases h:r0=r
  ·subst h
   by_cases h':r0=r'
   ·subst h';simp [St.set,St.get,St.has,E5]
   ·simp [St.set,St.get,St.has,h',E5,E4 h']
  ·by_cases h':r0=r'
   ·subst h'
    have h2:¬ r=r0:=fun e=>h e.symm
    simp [St.set,St.get,E4 h,h2,E5]
   ·simp [St.set,St.get,St.has,E4 h,E4 h',ih]
theorem E1 (σ:St) (r:Nat) (c:Ct):(σ.set r c).map (·.1)=σ.map (·.1):=by
 induction σ with
 | nil=>rfl
 | cons x σ ih =>
  obtain ⟨r0,c0⟩:=x
  cases h:Nat.beq r0 r <;> simp [St.set,h,ih]
theorem R5 (σ:St) (r:Nat):σ.has r=true↔r∈σ.map (·.1):=by
 induction σ with
 | nil=>simp [St.has]
 | cons x σ ih =>
  obtain ⟨r0,c0⟩:=x
  by_cases h:r0=r
  ·subst h;simp [St.has,E5]
  ·have h2:¬ r=r0:=fun e=>h e.symm
   simp only [St.has,E4 h,cond_false,ih,List.map_cons,List.mem_cons,h2,false_or]
theorem b6F (σ:St) (r:Nat) (h:σ.has r=false):σ.get r=⟨z0,[]⟩:=by
 induction σ with
 | nil=>rfl
 | cons x σ ih =>
  obtain ⟨r0,c0⟩:=x
  cases e:Nat.beq r0 r
  ·simp [St.has,e] at h;simp [St.get,e,ih h]
  ·simp [St.has,e] at h
/-- The change of ghosts and versions under which what is said of references stays true. -/
def u7 (G:GG) (V:Nat→Ver) (G':GG) (V':Nat→Ver):Prop:=∀ r,notPark r→∀ p,V r p≤V' r p∧(V' r p=V r p→G' r p=G r p)
theorem u7.refl (G:GG) (V:Nat→Ver):u7 G V G V:=fun _ _ _=>⟨Nat.le_refl _,fun _=>rfl⟩
theorem u7.trans {G V G' V' G'' V''} (h:u7 G V G' V') (k:u7 G' V' G'' V''):u7 G V G'' V'':=fun r hr p =>
 ⟨Nat.le_trans (h r hr p).1 (k r hr p).1,fun e=>by
  have h1:=(h r hr p).1
  have k1:=(k r hr p).1
  rw [(k r hr p).2 (by omega),(h r hr p).2 (by omega)]⟩
theorem R1.good {E G V G' V' x v} (h:u7 G V G' V') (hx:R1 E G V x v):R1 E G' V' x v:=by
 cases x with
 | pim m g=>exact hx
 | ptr r ver p m j k =>
  obtain ⟨b,o,hv,h0,h1,h2⟩:=hx
  obtain ⟨g1,g2⟩:=h r h0.1 p
  refine ⟨b,o,hv,h0,by omega,fun e=>?_⟩
  rw [g2 (by omega)]
  exact h2 (by omega)
theorem l4.good {E G V G' V' w g c v} (h:u7 G V G' V') (hx:l4 E G V w g c v):l4 E G' V' w g c v:=by
 cases c with
 | tr o t=>cases o <;> exact hx
 | dead=>exact hx
 | pt x=>exact R1.good h hx
 | fn f caps =>
  obtain ⟨vs,h1,h2,h3⟩:=hx
  refine ⟨vs,h1,h2,fun i x hi=>?_⟩
  obtain ⟨u,hu,hr⟩:=h3 i x hi
  exact ⟨u,hu,R1.good h hr⟩
 | ref r ver p m s n =>
  obtain ⟨A,cap,h1,h2,h3,h4,h5⟩:=hx
  obtain ⟨g1,g2⟩:=h r h3.1 p
  refine ⟨A,cap,h1,h2,h3,by omega,fun e=>?_⟩
  rw [g2 (by omega)]
  exact h5 (by omega)
theorem RelCs.good {E G V G' V' w g cs vs} (h:u7 G V G' V') (hx:RelCs E G V w g cs vs):RelCs E G' V' w g cs vs :=
 ⟨hx.1,fun k c hk=>let ⟨u,hu,hr⟩:=hx.2 k c hk;⟨u,hu,l4.good h hr⟩⟩
theorem i7.good {E G V G' V' w g row v} (h:u7 G V G' V') (hx:i7 E G V w g row v):i7 E G' V' w g row v:=by
 obtain ⟨ag,cs⟩:=row
 cases ag with
 | true=>obtain ⟨vs,e,hc⟩:=hx;exact ⟨vs,e,hc.good h⟩
 | false=>match cs,hx with
  | [],hx=>exact hx
  | [c],hx=>exact l4.good h hx
theorem RelRows.good {E G V G' V' w g rows v} (h:u7 G V G' V') (hx:RelRows E G V w g rows v):RelRows E G' V' w g rows v:=by
 match rows,hx with
 | [],_=>trivial
 | [row],hx=>exact i7.good (row:=row) (g:=fun k q=>g (0::k::q)) h hx
 | r::r'::rs,hx =>
  obtain ⟨vs,e,hs,hi⟩:=hx
  exact ⟨vs,e,hs,fun i row hr=>let ⟨u,hu,h1⟩:=hi i row hr;⟨u,hu,i7.good h h1⟩⟩
/-! ### a change of the world -/
theorem RelOwn.ext {w w':World} {t:T} {g:Gh} {v:Value} (h:RelOwn w t g v) (hb:∀ p ad c,g p=some (ad,c)→w'.heap[ad.block]?=w.heap[ad.block]?):RelOwn w' t g v:=by
 induction t generalizing g v with
 | int | bool | str | hole | lent=>exact h
 | arr m n f ih =>
  rcases h with h | ⟨b,off,cap,cs,e,hg,hv,hn,hc,hs,hh⟩
  ·exact .inl h
  ·refine .inr ⟨b,off,cap,cs,e,hg,hv,hn,(hb _ _ _ hg).trans hc,hs,fun j hj k hk=>?_⟩
   obtain ⟨u,hu,hr⟩:=hh j hj k hk
   exact ⟨u,hu,ih j k hr fun p ad c hp=>hb _ _ _ hp⟩
theorem l4.ext {E G V w w' g c v} (h:l4 E G V w g c v) (hb:∀ p ad c,g p=some (ad,c)→w'.heap[ad.block]?=w.heap[ad.block]?):l4 E G V w' g c v:=by
 cases c with
 | tr o t=>cases o with
  | true=>exact RelOwn.ext h hb
  | false=>exact h
 | _=>exact h
theorem RelCs.ext {E G V w w' g cs vs} (h:RelCs E G V w g cs vs) (hb:∀ k p ad c,g k p=some (ad,c)→w'.heap[ad.block]?=w.heap[ad.block]?):RelCs E G V w' g cs vs :=
 ⟨h.1,fun k c hk=>let ⟨u,hu,hr⟩:=h.2 k c hk;⟨u,hu,l4.ext hr (hb k)⟩⟩
theorem i7.ext {E G V w w' g row v} (h:i7 E G V w g row v) (hb:∀ k p ad c,g k p=some (ad,c)→w'.heap[ad.block]?=w.heap[ad.block]?):i7 E G V w' g row v:=by
 obtain ⟨ag,cs⟩:=row
 cases ag with
 | true=>obtain ⟨vs,e,hc⟩:=h;exact ⟨vs,e,hc.ext hb⟩
 | false=>match cs,h with
  | [],hx=>exact hx
  | [c],hx=>exact l4.ext hx (hb 0)
theorem RelRows.ext {E G V w w' g rows v} (h:RelRows E G V w g rows v) (hb:∀ p ad c,g p=some (ad,c)→w'.heap[ad.block]?=w.heap[ad.block]?):RelRows E G V w' g rows v:=by
 match rows,h with
 | [],_=>trivial
 | [row],hx=>exact i7.ext (row:=row) (g:=fun k q=>g (0::k::q)) hx fun k p ad c hp=>hb _ _ _ hp
 | r::r'::rs,hx =>
  obtain ⟨vs,e,hs,hi⟩:=hx
  exact ⟨vs,e,hs,fun i row hr=>let ⟨u,hu,h1⟩:=hi i row hr;⟨u,hu,i7.ext h1 fun k p ad c hp=>hb _ _ _ hp⟩⟩
/-- The world has turned nowhere where the state owns, nor where nobody writes. -/
theorem Rel.world {E σ a w w' G} (h:Rel E σ a w G) (ho:w'.os=w.os) (ht:w'.tape=w.tape) (hp:w'.output=w.output) (hs:w.heap.size≤w'.heap.size)
  (hn:∀ b,E.N b→w'.heap[b]?=w.heap[b]?) (hb:∀ r p ad c,G r p=some (ad,c)→w'.heap[ad.block]?=w.heap[ad.block]?):Rel E σ a w' G where
 nd:=h.nd
 inj:=h.inj
 rng:=fun r p ad c hg=>⟨(h.rng r p ad c hg).1,Nat.lt_of_lt_of_le (h.rng r p ad c hg).2 hs⟩
 os:=ho.trans h.os
 tape:=ht.trans h.tape
 output:=hp.trans h.output
 size:=Nat.le_trans h.size hs
 kept:=fun b hbN=>(hn b hbN).trans (h.kept b hbN)
 slots:=fun t=>(h.slots t).ext fun p ad c hg=>hb _ _ _ _ hg
 boxes:=fun t=>(h.boxes t).imp id fun ⟨row,b,cs,e,h1,h2,h3,h4⟩=>⟨row,b,cs,e,h1,h2,(hb _ _ _ _ h2).trans h3,h4.ext fun k p ad c hg=>hb _ _ _ _ hg⟩
 exts:=fun t=>(h.exts t).ext fun p ad c hg=>hb _ _ _ _ hg
 xbox:=h.xbox
 defers:=h.defers
 tm:=h.tm
 here:=h.here
/-- The world has turned nowhere where a slot or a box owns, nor where nobody writes. -/
theorem Rel.world' {E σ a w w' G} (h:Rel E σ a w G) (ho:w'.os=w.os) (ht:w'.tape=w.tape) (hp:w'.output=w.output) (hs:w.heap.size≤w'.heap.size)
  (hn:∀ b,E.N b→w'.heap[b]?=w.heap[b]?) (hb:∀ r p ad c,notPark r→G r p=some (ad,c)→w'.heap[ad.block]?=w.heap[ad.block]?):Rel E σ a w' G where
 nd:=h.nd
 inj:=h.inj
 rng:=fun r p ad c hg=>⟨(h.rng r p ad c hg).1,Nat.lt_of_lt_of_le (h.rng r p ad c hg).2 hs⟩
 os:=ho.trans h.os
 tape:=ht.trans h.tape
 output:=hp.trans h.output
 size:=Nat.le_trans h.size hs
 kept:=fun b hbN=>(hn b hbN).trans (h.kept b hbN)
 slots:=fun t=>(h.slots t).ext fun p ad c hg=>hb _ _ _ _ (by unfold notPark slot;omega) hg
 boxes:=fun t=>(h.boxes t).imp id fun ⟨row,b,cs,e,h1,h2,h3,h4⟩=>⟨row,b,cs,e,h1,h2,(hb _ _ _ _ (by unfold notPark box;omega) h2).trans h3,h4.ext fun k p ad c hg=>hb _ _ _ _ (by unfold notPark box;omega) hg⟩
 exts:=fun t=>(h.exts t).ext fun p ad c hg=>hb _ _ _ _ (by unfold notPark ext;omega) hg
 xbox:=h.xbox
 defers:=h.defers
 tm:=h.tm
 here:=h.here
/-- The world has grown. -/
structure Grew (w w':World):Prop where
 os:w'.os=w.os
 tape:w'.tape=w.tape
 output:w'.output=w.output
 size:w.heap.size≤w'.heap.size
 old:∀ b,b < w.heap.size→w'.heap[b]?=w.heap[b]?
theorem Grew.refl (w:World):Grew w w:=⟨rfl,rfl,rfl,Nat.le_refl _,fun _ _=>rfl⟩
theorem Rel.grew {E σ a w w' G} (h:Rel E σ a w G) (k:Grew w w'):Rel E σ a w' G :=
 h.world k.os k.tape k.output k.size (fun b hb=>k.old b (Nat.lt_of_lt_of_le hb.1 h.size)) fun r p ad c hg=>k.old _ (h.rng r p ad c hg).2
/-! ### the ghosts in flight ('park') -/
theorem a8e (t:Nat):notPark (slot t):=by unfold notPark slot;omega
theorem J1 (t:Nat):notPark (box t):=by unfold notPark box;omega
theorem b1C (t:Nat):notPark (ext t):=by unfold notPark ext;omega
theorem c0C {t u:Nat} (h:ext t=ext u):t=u:=by unfold ext at h;omega
theorem J2 (t u:Nat):slot t≠ext u:=by unfold slot ext;omega
theorem K2 (t u:Nat):box t≠ext u:=by unfold box ext;omega
theorem b4t (t u:Nat):ext t≠park u:=by unfold ext park;omega
theorem S1 (t:Nat):¬ notPark (park t):=by unfold notPark park;omega
theorem a5p {t u:Nat} (h:slot t=slot u):t=u:=by unfold slot at h;omega
theorem a6d {t u:Nat} (h:box t=box u):t=u:=by unfold box at h;omega
theorem O5 {t u:Nat} (h:park t=park u):t=u:=by unfold park at h;omega
theorem A3 (t u:Nat):slot t≠box u:=by unfold slot box;omega
theorem c9Y (t u:Nat):slot t≠park u:=by unfold slot park;omega
theorem a9q (t u:Nat):box t≠park u:=by unfold box park;omega
theorem l5 {r:Nat} (h:notPark r) (u:Nat):r≠park u:=fun e=>S1 u (e ▸ h)
def a1M (G:GG):Prop:=∀ r p r' p' ad c ad' c',G r p=some (ad,c)→G r' p'=some (ad',c')→ad.block=ad'.block→r=r'∧p=p'
def a3a (E:Env) (w:World) (G:GG):Prop:=∀ r p ad c,G r p=some (ad,c)→(E.w0.heap.size≤ad.block∨E.D ad.block)∧ad.block < w.heap.size
/-- What is in flight may be told anew. -/
theorem Rel.parks {E σ a w G} (h:Rel E σ a w G) (G':GG) (hnp:∀ r,notPark r→G' r=G r) (hi:a1M G') (hr:a3a E w G'):Rel E σ a w G' where
 nd:=h.nd
 inj:=hi
 rng:=hr
 os:=h.os
 tape:=h.tape
 output:=h.output
 size:=h.size
 kept:=h.kept
 slots:=fun t=>by
  rw [hnp _ (a8e t)]
  exact (h.slots t).good fun r hr p=>⟨Nat.le_refl _,fun _=>by rw [hnp r hr]⟩
 boxes:=fun t=>by
  rw [hnp _ (J1 t)]
  exact (h.boxes t).imp id fun ⟨row,b,cs,e,h1,h2,h3,h4⟩=>⟨row,b,cs,e,h1,h2,h3,h4.good fun r hr p=>⟨Nat.le_refl _,fun _=>by rw [hnp r hr]⟩⟩
 exts:=fun t=>by
  rw [hnp _ (b1C t)]
  exact (h.exts t).good fun r hr p=>⟨Nat.le_refl _,fun _=>by rw [hnp r hr]⟩
 xbox:=fun t ht=>by rw [hnp _ (J1 t)];exact h.xbox t ht
 defers:=h.defers
 tm:=h.tm
 here:=h.here
theorem u7.parks {G:GG} {V:Nat→Ver} (G':GG) (hnp:∀ r,notPark r→G' r=G r):u7 G V G' V:=fun r hr p=>⟨Nat.le_refl _,fun _=>by rw [hnp r hr]⟩
/-- Nothing is in flight there any more. -/
def clr (G:GG) (r:Nat):GG:=fun r'=>if r'=r then noG else G r'
theorem c2o {G:GG} {r r':Nat} {p:Path} {x} (h:clr G r r' p=some x):r'≠r∧G r' p=some x:=by
 unfold clr at h
 split at h
 ·simp [noG] at h
 ·exact ⟨‹_›,h⟩
theorem Rel.clear {E σ a w G} (h:Rel E σ a w G) (x:Nat):Rel E σ a w (clr G (park x)) :=
 h.parks _ (fun r hr=>by simp [clr,l5 hr x])
  (fun r p r' p' ad c ad' c' h1 h2=>h.inj _ _ _ _ _ _ _ _ (c2o h1).2 (c2o h2).2)
  (fun r p ad c h1=>h.rng _ _ _ _ (c2o h1).2)
/-! ### a slot is written -/
def mvG (G:GG) (r s:Nat):GG:=fun r'=>if r'=r then G s else if r'=s then noG else G r'
theorem c2p {G:GG} {r s r':Nat} {p:Path} {x} (h:mvG G r s r' p=some x):(r'=r∧G s p=some x)∨(r'≠r∧r'≠s∧G r' p=some x):=by
 unfold mvG at h
 split at h
 ·exact .inl ⟨‹_›,h⟩
 ·split at h
  ·simp [noG] at h
  ·exact .inr ⟨‹_›,‹_›,h⟩
theorem e7u {G:GG} (h:a1M G) (r s:Nat):a1M (mvG G r s):=by
 intro r1 p1 r2 p2 ad c ad' c' h1 h2 hb
 rcases c2p h1 with ⟨e1,g1⟩ | ⟨n1,m1,g1⟩ <;> rcases c2p h2 with ⟨e2,g2⟩ | ⟨n2,m2,g2⟩
 ·exact ⟨e1.trans e2.symm,(h _ _ _ _ _ _ _ _ g1 g2 hb).2⟩
 ·exact absurd (h _ _ _ _ _ _ _ _ g1 g2 hb).1.symm m2
 ·exact absurd (h _ _ _ _ _ _ _ _ g1 g2 hb).1 m1
 ·exact h _ _ _ _ _ _ _ _ g1 g2 hb
theorem e7v {E w} {G:GG} (h:a3a E w G) (r s:Nat):a3a E w (mvG G r s):=by
 intro r1 p1 ad c h1
 rcases c2p h1 with ⟨e1,g1⟩ | ⟨n1,m1,g1⟩
 ·exact h _ _ _ _ g1
 ·exact h _ _ _ _ g1
theorem e3y (a:Act) (d t:Nat) (v:Value) (hd:d < a.tmps.size):(a.put (some d) v).tmps.getD t undef=if t=d then v else a.tmps.getD t undef:=by
 simp only [Act.put,Array.getD_eq_getD_getElem?,Array.getElem?_setIfInBounds]
 by_cases e:t=d
 ·subst e;simp [hd]
 ·have e':¬ d=t:=fun x=>e x.symm
  simp [e,e']
theorem Rel.put {E σ a w G} (h:Rel E σ a w G) (d x:Nat) (hd:σ.has (slot d)=true) {rows:List Row} {v:Value}
  (hr:RelRows E G (fun r=>(σ.get r).ver) w (G (park x)) rows v) :
  Rel E (σ.set (slot d) ⟨bump [] (σ.get (slot d)).ver,rows⟩) (a.put (some d) v) w (mvG G (slot d) (park x)):=by
 have hlt:d < a.tmps.size:=by rw [h.tm];exact h.here d hd
 have hg:u7 G (fun r=>(σ.get r).ver) (mvG G (slot d) (park x)) (fun r=>((σ.set (slot d) ⟨bump [] (σ.get (slot d)).ver,rows⟩).get r).ver):=by
  intro r hnp p
  simp only [n9,hd,and_true]
  by_cases e:slot d=r
  ·subst e;simp [c9W]
  ·have e':¬ r=slot d:=fun x=>e x.symm
   simp [e,mvG,e',l5 hnp x]
 refine { nd:=by rw [E1];exact h.nd,inj:=e7u h.inj _ _,rng:=e7v h.rng _ _,os:=h.os,tape:=h.tape,output:=h.output,size:=h.size,kept:=h.kept,slots:=fun t=>?_,boxes:=fun t=>?_,exts:=fun t=>?_,xbox:=fun t ht=>?_,defers:=by simpa [Act.put] using h.defers,tm:=by simpa [Act.put] using h.tm,here:=fun t ht=>h.here t (by rw [R5] at *;rwa [E1] at ht) }
 ·rw [e3y _ _ _ _ hlt]
  by_cases e:t=d
  ·subst e
   have:((σ.set (slot t) ⟨bump [] (σ.get (slot t)).ver,rows⟩).get (slot t)).rows=rows:=by simp [n9,hd]
   rw [this,if_pos rfl]
   have e2:mvG G (slot t) (park x) (slot t)=G (park x):=by simp [mvG]
   rw [e2]
   exact hr.good hg
  ·have e1:¬ slot d=slot t:=fun x=>e (a5p x).symm
   have e3:¬ slot t=slot d:=fun x=>e (a5p x)
   have:((σ.set (slot d) ⟨bump [] (σ.get (slot d)).ver,rows⟩).get (slot t)).rows=(σ.get (slot t)).rows:=by simp [n9,e1]
   rw [this,if_neg e]
   have e2:mvG G (slot d) (park x) (slot t)=G (slot t):=by simp [mvG,e3,c9Y]
   rw [e2]
   exact (h.slots t).good hg
 ·have:((σ.set (slot d) ⟨bump [] (σ.get (slot d)).ver,rows⟩).get (box t)).rows=(σ.get (box t)).rows:=by simp [n9,A3]
  have e2:mvG G (slot d) (park x) (box t)=G (box t):=by unfold mvG;rw [if_neg (A3 d t).symm,if_neg (a9q t x)]
  rw [this,e2]
  exact (h.boxes t).imp id fun ⟨row,b,cs,e,h1,h2,h3,h4⟩=>⟨row,b,cs,e,h1,h2,h3,h4.good hg⟩
 ·have:((σ.set (slot d) ⟨bump [] (σ.get (slot d)).ver,rows⟩).get (ext t)).rows=(σ.get (ext t)).rows:=by simp [n9,J2]
  have e2:mvG G (slot d) (park x) (ext t)=G (ext t):=by unfold mvG;rw [if_neg (J2 d t).symm,if_neg (b4t t x)]
  rw [this,e2]
  exact (h.exts t).good hg
 ·have e2:mvG G (slot d) (park x) (box t)=G (box t):=by unfold mvG;rw [if_neg (A3 d t).symm,if_neg (a9q t x)]
  rw [e2]
  exact h.xbox t ht
end Go.Mach
namespace Go.Mach
theorem c9Z {w:World}:(p:Path)→{t t':T}→{g:Gh}→{v:Value}→RelOwn w t g v→t.at p=some t'→∃ v',RelOwn w t' (fun q=>g (p ++ q)) v'
 | [],t,t',g,v,h,e=>by
  have:t=t':=by cases t <;> simpa [T.at] using e
  subst this
  exact ⟨v,h⟩
 | [j],t,t',g,v,h,e=>by cases t <;> simp [T.at] at e
 | j::k::q,t,t',g,v,h,e=>by
  cases t with
  | arr m n f =>
   simp only [T.at] at e
   cases hg:(Nat.blt j n&&Nat.blt k m) with
   | false=>simp [hg] at e
   | true =>
    simp only [hg,cond_true] at e
    simp only [Bool.and_eq_true,Nat.blt_eq] at hg
    rcases h with ⟨_,h0,_⟩ | ⟨b,off,cap,cs,e',h1,h2,h3,h4,h5,h6⟩
    ·omega
    ·obtain ⟨u,hu,hr⟩:=h6 j hg.1 k hg.2
     exact c9Z q hr e
  | _=>simp [T.at] at e
theorem RelOwn.one {w:World} {t:T} {g:Gh} {v:Value} (h:RelOwn w t g v):v.oneCell'=true:=by
 cases t with
 | arr m n f =>
  rcases h with ⟨_,_,rfl⟩ | ⟨b,off,cap,cs,e',h1,rfl,_⟩ <;> rfl
 | int k n=>cases h;rfl
 | bool b=>cases h;rfl
 | str s=>cases h;rfl
 | hole=>exact h
 | lent m n=>rcases h with ⟨_,_,rfl⟩ | ⟨b,off,cap,_,rfl,_⟩ <;> rfl
theorem c2q {w:World}:(p:Path)→{t t':T}→{g g':Gh}→{v:Value}→RelOwn w t g v→t.put p .hole=some t'→(∀ q,¬ p <+: q→g' q=g q)→RelOwn w t' g' v
 | [],t,t',g,g',v,h,e,_=>by
  have:t'=.hole:=by cases t <;> simp [T.put] at e <;> exact e.symm
  subst this
  exact h.one
 | [j],t,t',g,g',v,h,e,_=>by cases t <;> simp [T.put] at e
 | j::k::q,t,t',g,g',v,h,e,hg=>by
  cases t with
  | arr m n f =>
   simp only [T.put] at e
   cases hb:(Nat.blt j n&&Nat.blt k m) with
   | false=>simp [hb] at e
   | true =>
    simp only [hb,cond_true] at e
    simp only [Bool.and_eq_true,Nat.blt_eq] at hb
    cases hp:(f j k).put q .hole with
    | none=>simp [hp] at e
    | some t1 =>
     simp only [hp,Option.some.injEq] at e
     subst e
     have hg0:g' []=g []:=hg [] (by simp)
     rcases h with ⟨_,h0,_⟩ | ⟨b,off,cap,cs,e',h1,h2,h3,h4,h5,h6⟩
     ·omega
     ·refine .inr ⟨b,off,cap,cs,e',hg0.trans h1,h2,h3,h4,h5,fun j' hj k' hk=>?_⟩
      obtain ⟨u,hu,hr⟩:=h6 j' hj k' hk
      refine ⟨u,hu,?_⟩
      by_cases ej:j'=j∧k'=k
      ·obtain ⟨rfl,rfl⟩:=ej
       simp only [E5,Bool.and_self,cond_true]
       exact c2q q hr hp fun q' hq'=>hg _ (by simpa using hq')
      ·have:(Nat.beq j' j&&Nat.beq k' k)=false:=by
        by_cases e1:j'=j
        ·have e2:k'≠k:=fun e2=>ej ⟨e1,e2⟩
         simp [E4 e2]
        ·simp [E4 e1]
       simp only [this,cond_false]
       have:(fun q'=>g' (j'::k'::q'))=fun q'=>g (j'::k'::q'):=funext fun q'=>hg _ (by
        intro hpre
        rw [List.cons_prefix_cons,List.cons_prefix_cons] at hpre
        exact ej ⟨hpre.1.symm,hpre.2.1.symm⟩)
       rw [this]
       exact hr
  | _=>simp [T.put] at e
theorem RelCs.set {E G V w g g' cs vs k c'} (h:RelCs E G V w g cs vs) (hk:∀ u,vs[k]?=some u→l4 E G V w (g' k) c' u) (hg:∀ k',k'≠k→g' k'=g k') :
  RelCs E G V w g' (cs.set k c') vs:=by
 refine ⟨by simpa using h.1,fun i c hi=>?_⟩
 by_cases e:i=k
 ·subst e
  have hlt:i < cs.length:=by
   have:=(List.getElem?_eq_some_iff.1 hi).1
   simpa using this
  have hv:i < vs.size:=by rw [h.1];exact hlt
  have:c=c':=by
   rw [List.getElem?_set_self hlt] at hi
   exact (Option.some.inj hi).symm
  subst this
  exact ⟨vs[i],Array.getElem?_eq_getElem hv,hk _ (Array.getElem?_eq_getElem hv)⟩
 ·rw [List.getElem?_set_ne (fun x=>e x.symm)] at hi
  rw [hg i e]
  exact h.2 i c hi
theorem RelCs.at {E G V w g cs vs k c} (h:RelCs E G V w g cs vs) (hk:cs[k]?=some c):∃ u,vs[k]?=some u∧l4 E G V w (g k) c u:=h.2 k c hk
/-- A row that is no agg has one cell, or none. -/
theorem i7.cs {E G V w g ag cs v} (h:i7 E G V w g (ag,cs) v) (hne:cs≠[]):∃ vs:Array Value,RelCs E G V w g cs vs ∧
  (∀ E' G' V' w' g' cs',cs'.length=cs.length→RelCs E' G' V' w' g' cs' vs→i7 E' G' V' w' g' (ag,cs') v):=by
 cases ag with
 | true =>
  obtain ⟨vs,e,hc⟩:=h
  exact ⟨vs,hc,fun _ _ _ _ g' cs' _ h'=>⟨vs,e,h'⟩⟩
 | false=>match cs,h with
  | [],h=>exact absurd rfl hne
  | [c],h =>
   refine ⟨#[v],⟨rfl,fun k c' hk=>?_⟩,fun _ _ _ _ g' cs' hl h'=>?_⟩
   ·cases k with
    | zero=>simp at hk;subst hk;exact ⟨v,rfl,h⟩
    | succ k=>simp at hk
   ·match cs',hl with
    | [c'],_ =>
     obtain ⟨u,hu,hr⟩:=h'.2 0 c' rfl
     simp at hu
     subst hu
     exact hr
/-- One row of several, taken out and put back. -/
theorem RelRows.row {E G V w g rows v i row} (h:RelRows E G V w g rows v) (hi:rows[i]?=some row):∃ u,i7 E G V w (fun k q=>g (i::k::q)) row u ∧
  (∀ g' row',(∀ i' k q,i'≠i→g' (i'::k::q)=g (i'::k::q))→i7 E G V w (fun k q=>g' (i::k::q)) row' u→RelRows E G V w g' (rows.set i row') v):=by
 match rows,h with
 | [],_=>simp at hi
 | [r],h =>
  cases i with
  | zero=>simp at hi;subst hi;exact ⟨v,h,fun g' row' _ h'=>h'⟩
  | succ i=>simp at hi
 | r::r'::rs,⟨vs,e,hs,hh⟩ =>
  obtain ⟨u,hu,hr⟩:=hh i row hi
  refine ⟨u,hr,fun g' row' hg h'=>?_⟩
  have hl:i < (r::r'::rs).length:=(List.getElem?_eq_some_iff.1 hi).1
  have key:∀ l:List Row,l=(r::r'::rs).set i row'→RelRows E G V w g' l v:=by
   intro l el
   have hlen:l.length=(r::r'::rs).length:=by rw [el];simp
   match l,hlen,el with
   | a::b::l,hlen,el =>
    refine ⟨vs,e,by omega,fun i' row'' hi'=>?_⟩
    rw [el] at hi'
    by_cases e':i'=i
    ·subst e'
     rw [List.getElem?_set_self hl] at hi'
     obtain rfl:=Option.some.inj hi'
     exact ⟨u,hu,h'⟩
    ·rw [List.getElem?_set_ne (fun x=>e' x.symm)] at hi'
     obtain ⟨u',hu',hr'⟩:=hh i' row'' hi'
     refine ⟨u',hu',?_⟩
     have:(fun k q=>g' (i'::k::q))=fun k q=>g (i'::k::q):=by funext k q;exact hg i' k q e'
     rw [this]
     exact hr'
  exact key _ rfl
theorem W0 {rows:List Row} {p:Path} {t:T} (h:rowsAt rows p=some t):∃ i k q ag cs t0,p=i::k::q∧rows[i]?=some (ag,cs)∧cs[k]?=some (.tr true t0)∧t0.at q=some t:=by
 match p,h with
 | i::k::q,h =>
  simp only [rowsAt] at h
  split at h
  ·rename_i ag cs h1
   split at h
   ·rename_i t0 h2
    exact ⟨i,k,q,ag,cs,t0,rfl,h1,h2,h⟩
   ·simp at h
  ·simp at h
theorem Y6 {rows rows':List Row} {p:Path} {u:T} (h:C3 rows u p=some rows'):∃ i k q ag cs t0 t1,p=i::k::q∧rows[i]?=some (ag,cs)∧cs[k]?=some (.tr true t0)∧t0.put q u=some t1 ∧
  rows'=rows.set i (ag,cs.set k (.tr true t1)):=by
 match p,h with
 | i::k::q,h =>
  simp only [C3] at h
  split at h
  ·rename_i ag cs h1
   split at h
   ·rename_i t0 h2
    split at h
    ·rename_i t1 h3
     exact ⟨i,k,q,ag,cs,t0,t1,rfl,h1,h2,h3,(Option.some.inj h).symm⟩
    ·simp at h
   ·simp at h
  ·simp at h
theorem RelRows.at {E G V w g rows v p t} (h:RelRows E G V w g rows v) (ha:rowsAt rows p=some t):∃ v',RelOwn w t (fun q=>g (p ++ q)) v':=by
 obtain ⟨i,k,q,ag,cs,t0,rfl,h1,h2,h3⟩:=W0 ha
 obtain ⟨u,hr,_⟩:=h.row h1
 obtain ⟨vs,hc,_⟩:=hr.cs (by rintro rfl;simp at h2)
 obtain ⟨x,_,hx⟩:=hc.at h2
 exact c9Z q hx h3
theorem RelRows.hole {E G V w g g' rows rows' v p} (h:RelRows E G V w g rows v) (ha:C3 rows .hole p=some rows') (hg:∀ q,¬ p <+: q→g' q=g q):RelRows E G V w g' rows' v:=by
 obtain ⟨i,k,q,ag,cs,t0,t1,rfl,h1,h2,h3,rfl⟩:=Y6 ha
 obtain ⟨u,hr,back⟩:=h.row h1
 obtain ⟨vs,hc,back'⟩:=hr.cs (by rintro rfl;simp at h2)
 refine back g' _ (fun i' k' q' hne=>hg _ fun hp=>?_) (back' _ _ _ _ _ _ (by simp) (hc.set (fun x hx=>?_) fun k' hk'=>?_))
 ·rw [List.cons_prefix_cons] at hp
  exact hne hp.1.symm
 ·obtain ⟨x',hx',hxr⟩:=hc.at h2
  rw [hx] at hx'
  obtain rfl:=Option.some.inj hx'
  exact c2q q hxr h3 fun q' hq'=>hg _ (by simpa using hq')
 ·funext q'
  exact hg _ fun hp=>by
   rw [List.cons_prefix_cons,List.cons_prefix_cons] at hp
   exact hk' hp.2.1.symm
/-- What a state says of a box. -/
def B6 (E:Env) (G:GG) (V:Nat→Ver) (w:World) (g:Gh) (rows:List Row):Prop :=
 rows=[]∨∃ row b cs e,rows=[row]∧g []=some (⟨b,0,none⟩,1)∧w.heap[b]?=some (.cells cs e (0,0))∧RelCs E G V w (fun k q=>g (0::k::q)) row.2 cs
theorem Rel.box' {E σ a w G} (h:Rel E σ a w G) (t:Nat):B6 E G (fun r=>(σ.get r).ver) w (G (box t)) (σ.get (box t)).rows:=h.boxes t
theorem B6.good {E G V G' V' w g rows} (h:u7 G V G' V') (hx:B6 E G V w g rows):B6 E G' V' w g rows :=
 hx.imp id fun ⟨row,b,cs,e,h1,h2,h3,h4⟩=>⟨row,b,cs,e,h1,h2,h3,h4.good h⟩
theorem B6.at {E G V w g rows p t} (h:B6 E G V w g rows) (ha:rowsAt rows p=some t):∃ v',RelOwn w t (fun q=>g (p ++ q)) v':=by
 obtain ⟨i,k,q,ag,cs,t0,rfl,h1,h2,h3⟩:=W0 ha
 rcases h with rfl | ⟨row,b,vs,e,rfl,_,_,hc⟩
 ·simp at h1
 ·cases i with
  | succ i=>simp at h1
  | zero =>
   simp at h1
   subst h1
   obtain ⟨x,_,hx⟩:=hc.at h2
   exact c9Z q hx h3
theorem B6.hole {E G V w g g' rows rows' p} (h:B6 E G V w g rows) (ha:C3 rows .hole p=some rows') (hg:∀ q,¬ p <+: q→g' q=g q):B6 E G V w g' rows':=by
 obtain ⟨i,k,q,ag,cs,t0,t1,rfl,h1,h2,h3,rfl⟩:=Y6 ha
 rcases h with rfl | ⟨row,b,vs,e,rfl,hb,hw,hc⟩
 ·simp at h1
 ·cases i with
  | succ i=>simp at h1
  | zero =>
   simp at h1
   subst h1
   refine .inr ⟨(ag,cs.set k (.tr true t1)),b,vs,e,rfl,(hg [] (by simp)).trans hb,hw,hc.set (fun x hx=>?_) fun k' hk'=>?_⟩
   ·obtain ⟨x',hx',hxr⟩:=hc.at h2
    rw [hx] at hx'
    obtain rfl:=Option.some.inj hx'
    exact c2q q hxr h3 fun q' hq'=>hg _ (by simpa using hq')
   ·funext q'
    exact hg _ fun hp=>by
     rw [List.cons_prefix_cons,List.cons_prefix_cons] at hp
     exact hk' hp.2.1.symm
theorem a3b {r:Nat} (h:notPark r):∃ t,r=slot t∨r=box t∨r=ext t:=by
 refine ⟨r / 4,?_⟩
 unfold notPark at h
 unfold slot box ext
 omega
/-- A root's content is told anew: what lies in the root, and its ghost. -/
theorem Rel.rootV {E σ a w G G'} (h:Rel E σ a w G) (r:Nat) (hnp:notPark r) (rows:List Row) (V':Ver) (hi:a1M G') (hr:a3a E w G') (hG:∀ r',notPark r'→r'≠r→G' r'=G r') (hv:∀ p,(σ.get r).ver p≤V' p∧(V' p=(σ.get r).ver p→G' r p=G r p))
  (hs:∀ t,r=slot t→RelRows E G (fun r=>(σ.get r).ver) w (G' r) rows (a.tmps.getD t undef))
  (hb:∀ t,r=box t→B6 E G (fun r=>(σ.get r).ver) w (G' r) rows∧(E.nt≤t→G' r []=E.xb t))
  (hx:∀ t,r=ext t→RelRows E G (fun r=>(σ.get r).ver) w (G' r) rows (E.x t)) (hhas:σ.has r=true) :
  Rel E (σ.set r ⟨V',rows⟩) a w G'∧u7 G (fun r=>(σ.get r).ver) G' (fun r'=>((σ.set r ⟨V',rows⟩).get r').ver):=by
 have hg:u7 G (fun r=>(σ.get r).ver) G' (fun r'=>((σ.set r ⟨V',rows⟩).get r').ver):=by
  intro r' hr' p
  simp only [n9,hhas,and_true]
  by_cases e:r=r'
  ·subst e
   simp only [if_true]
   exact hv p
  ·simp [e,hG r' hr' (fun x=>e x.symm)]
 have hget:∀ r',r'≠r→(σ.set r ⟨V',rows⟩).get r'=σ.get r':=fun r' hne=>by
  rw [n9,if_neg fun x=>hne x.1.symm]
 have hself:(σ.set r ⟨V',rows⟩).get r=⟨V',rows⟩:=by rw [n9,if_pos ⟨rfl,hhas⟩]
 refine ⟨{ nd:=by rw [E1];exact h.nd,inj:=hi,rng:=hr,os:=h.os,tape:=h.tape,output:=h.output,size:=h.size,kept:=h.kept,slots:=fun t=>?_,boxes:=fun t=>?_,exts:=fun t=>?_,xbox:=fun t ht=>?_,defers:=h.defers,tm:=h.tm,here:=fun t ht=>h.here t (by rw [R5] at *;rwa [E1] at ht) },hg⟩
 ·by_cases e:slot t=r
  ·rw [e,hself]
   exact (hs t e.symm).good hg
  ·rw [hget _ e,hG _ (a8e t) e]
   exact (h.slots t).good hg
 ·by_cases e:box t=r
  ·rw [e,hself]
   exact (hb t e.symm).1.good hg
  ·rw [hget _ e,hG _ (J1 t) e]
   exact (h.box' t).good hg
 ·by_cases e:ext t=r
  ·rw [e,hself]
   exact (hx t e.symm).good hg
  ·rw [hget _ e,hG _ (b1C t) e]
   exact (h.exts t).good hg
 ·by_cases e:box t=r
  ·rw [e]
   exact (hb t e.symm).2 ht
  ·rw [hG _ (J1 t) e]
   exact h.xbox t ht
theorem Rel.root {E σ a w G G'} (h:Rel E σ a w G) (r:Nat) (hnp:notPark r) (rows:List Row) (q:Path) (hi:a1M G') (hr:a3a E w G') (hG:∀ r',notPark r'→r'≠r→G' r'=G r') (hq:∀ p,¬ q <+: p→G' r p=G r p)
  (hs:∀ t,r=slot t→RelRows E G (fun r=>(σ.get r).ver) w (G' r) rows (a.tmps.getD t undef))
  (hb:∀ t,r=box t→B6 E G (fun r=>(σ.get r).ver) w (G' r) rows∧(E.nt≤t→G' r []=E.xb t))
  (hx:∀ t,r=ext t→RelRows E G (fun r=>(σ.get r).ver) w (G' r) rows (E.x t)) (hhas:σ.has r=true) :
  Rel E (σ.set r ⟨bump q (σ.get r).ver,rows⟩) a w G'∧u7 G (fun r=>(σ.get r).ver) G' (fun r'=>((σ.set r ⟨bump q (σ.get r).ver,rows⟩).get r').ver) :=
 h.rootV r hnp rows _ hi hr hG (fun p=>⟨d4v _ _ _,fun hb=>hq p (d4w hb)⟩) hs hb hx hhas
/-- The ghost behind a move: what lay under (r, p) lies under (y, d). -/
def tkG (G:GG) (r:Nat) (p:Path) (y:Nat) (d:Path):GG:=fun r' q =>
 if r'=y∧d <+: q then G r (p ++ q.drop d.length) else if r'=r∧p <+: q then none else G r' q
theorem c2r {G:GG} {r p y d r' q z} (h:tkG G r p y d r' q=some z) :
  (r'=y∧(∃ q',q=d ++ q'∧G r (p ++ q')=some z))∨(¬ (r'=r∧p <+: q)∧¬ (r'=y∧d <+: q)∧G r' q=some z):=by
 unfold tkG at h
 split at h
 ·rename_i h2
  obtain ⟨q',rfl⟩:=h2.2
  exact .inl ⟨h2.1,q',rfl,by simpa using h⟩
 ·split at h
  ·simp at h
  ·exact .inr ⟨‹_›,‹_›,h⟩
theorem d4x {G:GG} (h:a1M G) (r p y d):a1M (tkG G r p y d):=by
 intro r1 q1 r2 q2 ad c ad' c' h1 h2 hb
 rcases c2r h1 with ⟨e1,p1,rfl,g1⟩ | ⟨n1,m1,g1⟩ <;> rcases c2r h2 with ⟨e2,p2,rfl,g2⟩ | ⟨n2,m2,g2⟩
 ·have:=(h _ _ _ _ _ _ _ _ g1 g2 hb).2
  rw [List.append_cancel_left_eq] at this
  exact ⟨e1.trans e2.symm,by rw [this]⟩
 ·obtain ⟨e,ep⟩:=h _ _ _ _ _ _ _ _ g1 g2 hb
  exact absurd ⟨e.symm,ep ▸ List.prefix_append _ _⟩ n2
 ·obtain ⟨e,ep⟩:=h _ _ _ _ _ _ _ _ g1 g2 hb
  exact absurd ⟨e,ep ▸ List.prefix_append _ _⟩ n1
 ·exact h _ _ _ _ _ _ _ _ g1 g2 hb
theorem d4y {E w} {G:GG} (h:a3a E w G) (r p y d):a3a E w (tkG G r p y d):=by
 intro r1 q1 ad c h1
 rcases c2r h1 with ⟨e1,p1,rfl,g1⟩ | ⟨n1,m1,g1⟩
 ·exact h _ _ _ _ g1
 ·exact h _ _ _ _ g1
theorem d8S (G:GG) (r p y d q):tkG G r p y d y (d ++ q)=G r (p ++ q):=by
 unfold tkG
 rw [if_pos ⟨rfl,List.prefix_append _ _⟩]
 simp
theorem a8f {G:GG} {r p y d r' q} (h1:¬ (r'=y∧d <+: q)) (h2:¬ (r'=r∧p <+: q)):tkG G r p y d r' q=G r' q:=by
 unfold tkG
 rw [if_neg h1,if_neg h2]
theorem O6 {α:Type} {φ:Sems} {r:Nat} {k:Ct→Pr α} {σ:St} {L:Log}:(Pr.rd r k).run φ σ L=(k (σ.get r)).run φ σ ((r,.rd)::L):=rfl
theorem d0a {α:Type} {φ:Sems} {r:Nat} {p:Path} {g:Ct→Hd} {hg:HdOk p g} {k:Hd→Pr α} {σ:St} {L:Log}:(Pr.hdr r p g hg k).run φ σ L=(k (g (σ.get r))).run φ σ ((r,.hd p)::L):=rfl
theorem j9 {α:Type} {φ:Sems} {b:Bool} {k:Pr α} {σ:St} {L:Log} {y} (h:(o4 b k).run φ σ L=some y):b=true∧k.run φ σ L=some y:=by
 cases b with
 | true=>exact ⟨rfl,h⟩
 | false=>simp [o4,Pr.run] at h
theorem run_bind {α β:Type} {φ:Sems} {p:Pr α} {g:α→Pr β} {σ:St} {L:Log} {y} (h:(p.bind g).run φ σ L=some y) :
  ∃ a σ' L',p.run φ σ L=some (a,σ',L')∧(g a).run φ σ' L'=some y:=by
 induction p generalizing σ L with
 | ret a=>exact ⟨a,σ,L,rfl,h⟩
 | rd r k ih=>exact ih _ h
 | wr r c k ih =>
  simp only [Pr.bind,Pr.run] at h ⊢
  cases hs:σ.has r with
  | false=>simp [hs] at h
  | true=>simp only [hs,cond_true] at h ⊢;exact ih h
 | hdr r p g hg k ih=>exact ih _ h
 | up r q u k ih =>
  simp only [Pr.bind,Pr.run] at h ⊢
  cases hs:(σ.has r&&G9 (σ.get r).rows q) with
  | false=>simp [hs] at h
  | true=>simp only [hs,cond_true] at h ⊢;exact ih h
 | tp r k ih=>exact ih _ h
 | mv r q u k ih =>
  simp only [Pr.bind,Pr.run] at h ⊢
  cases hs:(σ.has r&&G9 (σ.get r).rows q) with
  | false=>simp [hs] at h
  | true=>simp only [hs,cond_true] at h ⊢;exact ih h
 | call f a k ih =>
  simp only [Pr.bind,Pr.run] at h ⊢
  rcases φ.det f a with hd | ⟨rs,outs,hd⟩
  ·rw [hd] at h;cases h
  ·rw [hd] at h
   rw [hd]
   exact ih _ _ h
 | ask f k ih=>exact ih _ h
 | br b x y ihx ihy =>
  cases b with
  | true=>exact ihx h
  | false=>exact ihy h
 | fail=>simp [Pr.bind,Pr.run] at h
theorem g7 {α:Type} {φ:Sems} {a:α} {σ:St} {L:Log} {y} (h:(Pr.ret a).run φ σ L=some y):y=(a,σ,L):=(Option.some.inj h).symm
theorem i5 {α:Type} {φ:Sems} {σ:St} {L:Log} {y} (h:(Pr.fail:Pr α).run φ σ L=some y):False:=by simp [Pr.run] at h
theorem a4I {α:Type} {φ:Sems} {r:Nat} {c:Ct} {k:Pr α} {σ:St} {L:Log} {y} (h:(Pr.wr r c k).run φ σ L=some y):σ.has r=true∧k.run φ (σ.set r c) ((r,.wr)::L)=some y:=by
 simp only [Pr.run] at h
 cases hs:σ.has r with
 | false=>simp [hs] at h
 | true=>simp only [hs,cond_true] at h;exact ⟨rfl,h⟩
theorem f0H {α:Type} {φ:Sems} {r:Nat} {q:Path} {u:T} {k:Pr α} {σ:St} {L:Log} {y} (h:(Pr.mv r q u k).run φ σ L=some y):σ.has r=true∧k.run φ (σ.set r ⟨E0 q (σ.get r).ver,n8 (σ.get r).rows ((E9 (σ.get r).rows q).reHd u) q⟩) ((r,.dn q)::L)=some y:=by
 simp only [Pr.run] at h
 cases hs:(σ.has r&&G9 (σ.get r).rows q) with
 | false=>simp [hs] at h
 | true =>
  simp only [hs,cond_true] at h
  simp only [Bool.and_eq_true] at hs
  exact ⟨hs.1,h⟩
theorem f0I {α:Type} {φ:Sems} {r:Nat} {q:Path} {u:T} {k:Pr α} {σ:St} {L:Log} {y} (h:(Pr.up r q u k).run φ σ L=some y):σ.has r=true∧k.run φ (σ.set r ⟨bump q (σ.get r).ver,n8 (σ.get r).rows u q⟩) ((r,.up q)::L)=some y:=by
 simp only [Pr.run] at h
 cases hs:(σ.has r&&G9 (σ.get r).rows q) with
 | false=>simp [hs] at h
 | true =>
  simp only [hs,cond_true] at h
  simp only [Bool.and_eq_true] at hs
  exact ⟨hs.1,h⟩
/-! ### paths that are there -/
theorem d0b:∀ (p:Path) (t:T),t.okAt p=true→t.at p=some (t.get p)
 | [],t,_=>by cases t <;> rfl
 | [j],t,h=>by cases t <;> simp [T.okAt] at h
 | j::k::q,t,h=>by
  cases t with
  | arr m n f =>
   simp only [T.okAt,Bool.and_eq_true] at h
   have hb:(Nat.blt j n&&Nat.blt k m)=true:=by simp only [Bool.and_eq_true];exact h.1
   simp only [T.at,hb,cond_true,T.get]
   exact d0b q _ h.2
  | _=>simp [T.okAt] at h
theorem c7F:∀ (p:Path) (t u:T),t.okAt p=true→t.put p u=some (t.set p u)
 | [],t,u,_=>by cases t <;> rfl
 | [j],t,u,h=>by cases t <;> simp [T.okAt] at h
 | j::k::q,t,u,h=>by
  cases t with
  | arr m n f =>
   simp only [T.okAt,Bool.and_eq_true] at h
   have hb:(Nat.blt j n&&Nat.blt k m)=true:=by simp only [Bool.and_eq_true];exact h.1
   simp only [T.put,hb,cond_true,T.set]
   rw [c7F q _ u h.2]
   rfl
  | _=>simp [T.okAt] at h
theorem a7r {rows:List Row} {p:Path} (h:K4 rows p=true):rowsAt rows p=some (E9 rows p)∧∀ u,C3 rows u p=some (n8 rows u p):=by
 match p with
 | []=>simp [K4] at h
 | [_]=>simp [K4] at h
 | i::k::q =>
  simp only [K4] at h
  split at h
  ·rename_i g cs hi
   split at h
   ·rename_i t hk
    have hc:v6 rows i k=t:=by simp only [v6,hi,hk]
    refine ⟨?_,fun u=>?_⟩
    ·simp only [rowsAt,hi,hk,E9,hc]
     exact d0b q t h
    ·simp only [C3,hi,hk,n8,hc]
     rw [c7F q t u h]
   ·cases h
  ·cases h
theorem d0c {t:T} (h:t.isArr=true):t=.arr t.wd t.ln t.fn:=by
 cases t with
 | arr m n f=>rfl
 | _=>cases h
theorem W4 {α:Type} {φ:Sems} {rows:List Row} {p:Path} {k:Nat→Nat→(Nat→Nat→T)→Pr α} {σ:St} {L:Log} {y} (h:(a7n rows p k).run φ σ L=some y) :
  ∃ m n f,rowsAt rows p=some (.arr m n f)∧(∀ u,C3 rows u p=some (n8 rows u p))∧(k m n f).run φ σ L=some y:=by
 replace h:=j9 h
 obtain ⟨hb,h2⟩:=h
 simp only [Bool.and_eq_true] at hb
 obtain ⟨h3,h4⟩:=a7r hb.1
 exact ⟨_,_,_,by rw [h3];congr 1;exact d0c hb.2,h4,h2⟩
abbrev St.V (σ:St):Nat→Ver:=fun r=>(σ.get r).ver
/-- TAKING: the cell's content is in flight at park x under [i, k]; what else was in flight there is still. -/
theorem c3R {E σ a w G} (h:Rel E σ a w G) (φ:Sems) (x i k:Nat) (hp:∀ q,G (park x) (i::k::q)=none) {c:C} {v:Value} (hc:l4 E G σ.V w noG c v)
  {L c' σ' L'} (hrun:(b6z c).run φ σ L=some (c',σ',L')) :
  ∃ G',Rel E σ' a w G'∧l4 E G' σ'.V w (fun q=>G' (park x) (i::k::q)) c' v∧u7 G σ.V G' σ'.V∧(∀ y q,¬ (y=x∧[i,k] <+: q)→G' (park y) q=G (park y) q):=by
 have triv:(c',σ',L')=(c,σ,L)→∃ G',Rel E σ' a w G'∧l4 E G' σ'.V w (fun q=>G' (park x) (i::k::q)) c' v∧u7 G σ.V G' σ'.V∧(∀ y q,¬ (y=x∧[i,k] <+: q)→G' (park y) q=G (park y) q):=by
  rintro ⟨⟩
  refine ⟨G,h,?_,u7.refl _ _,fun _ _ _=>rfl⟩
  have:(fun q=>G (park x) (i::k::q))=noG:=funext hp
  rw [this]
  exact hc
 cases c with
 | tr o t=>exact triv (g7 hrun)
 | pt y=>exact triv (g7 hrun)
 | fn f caps=>exact triv (g7 hrun)
 | dead=>exact triv (g7 hrun)
 | ref r ver p m s n =>
  obtain ⟨hr4,hrun⟩ | ⟨hr4,hrun⟩:(Nat.beq (r % 4) 2=true∧(Pr.ret (C.ref r ver p m s n)).run φ σ L=some (c',σ',L'))∨(Nat.beq (r % 4) 2=false∧(Pr.rd r fun ct=>a7n ct.rows p fun m' n' f=>o4 (Nat.beq (ct.ver p) ver&&(Nat.beq s 0&&(Nat.ble n n'&&Nat.beq m m'))) (.up r p .hole (.ret (.tr true (.arr m n f))))).run φ σ L=some (c',σ',L')):=by
   simp only [b6z] at hrun
   cases h4:Nat.beq (r % 4) 2 with
   | true=>rw [h4] at hrun;exact .inl ⟨rfl,hrun⟩
   | false=>rw [h4] at hrun;exact .inr ⟨rfl,hrun⟩
  ·exact triv (g7 hrun)
  obtain ⟨A,cap,rfl,hn,⟨hnp,hpne⟩,hver,hval⟩:=hc
  simp only [O6] at hrun
  ·obtain ⟨m',n',f,hat,hputs,hrun1⟩:=W4 hrun
   replace hrun1:=j9 hrun1
   obtain ⟨hb,hrun2⟩:=hrun1
   simp only [Bool.and_eq_true] at hb
   obtain ⟨hb1,hb2,hb3,hb4⟩:=hb
   have e1:=j8 hb1;have e2:=j8 hb2;have e3:=Nat.le_of_ble_eq_true hb3;have e4:=j8 hb4
   subst e2;subst e4
   ·have hput:=hputs .hole
    replace hrun2:=f0I hrun2
    generalize n8 (σ.get r).rows .hole p=rows at hrun2 hput
    obtain ⟨hhas,hrun⟩:=hrun2
    obtain ⟨rfl,rfl,rfl⟩:c'=.tr true (.arr m n f)∧σ'=σ.set r ⟨bump p (σ.get r).ver,rows⟩∧L'=(r,.up p)::(r,.rd)::L:=by
     have:=g7 hrun
     simp at this
     exact this
    have hGin:a1M (tkG G r p (park x) [i,k]):=d4x h.inj _ _ _ _
    have hGr:a3a E w (tkG G r p (park x) [i,k]):=d4y h.rng _ _ _ _
    have hother:∀ r',notPark r'→r'≠r→tkG G r p (park x) [i,k] r'=G r':=fun r' h1 h2=>funext fun q=>a8f (fun e=>l5 h1 x e.1) (fun e=>h2 e.1)
    have hin:∀ q,¬ p <+: q→tkG G r p (park x) [i,k] r q=G r q:=fun q hq=>a8f (fun e=>l5 hnp x e.1) (fun e=>hq e.2)
    have hown:∃ v',RelOwn w (.arr m n' f) (fun q=>G r (p ++ q)) v':=by
     obtain ⟨t,rfl | rfl | rfl⟩:=a3b hnp
     ·exact (h.slots t).at hat
     ·exact (h.box' t).at hat
     ·exact (h.exts t).at hat
    obtain ⟨h1,h2⟩:=h.root r hnp rows p hGin hGr hother hin
     (fun t e=>by
      subst e
      exact (h.slots t).hole hput hin)
     (fun t e=>by
      subst e
      exact ⟨(h.box' t).hole hput hin,fun ht=>(hin [] (by simpa using hpne)).trans (h.xbox t ht)⟩)
     (fun t e=>by
      subst e
      exact (h.exts t).hole hput hin) hhas
    refine ⟨_,h1,?_,h2,fun y q hq=>?_⟩
    ·have hgh:(fun q=>tkG G r p (park x) [i,k] (park x) (i::k::q))=fun q=>G r (p ++ q):=by
      funext q
      exact d8S G r p (park x) [i,k] q
     rw [hgh]
     obtain ⟨v',hv'⟩:=hown
     rcases hv' with ⟨g0,hn0,rfl⟩ | ⟨b,off,cap',cs,e,g0,rfl,hn',hh1,hh2,hh3⟩ <;> have g0':=g0 <;> simp only [List.append_nil] at g0'
     ·rcases hval e1 with ⟨_,rfl,_,rfl,rfl⟩ | ⟨b,off,c,g1,_⟩
      ·exact .inl ⟨g0,rfl,rfl⟩
      ·rw [g0'] at g1;cases g1
     ·rcases hval e1 with ⟨g1,_⟩ | ⟨b',off',c,g1,h3,_⟩
      ·rw [g0'] at g1;cases g1
      ·rw [g0'] at g1
       obtain ⟨rfl,rfl⟩:=h3 rfl
       cases g1
       exact .inr ⟨b,off,cap,cs,e,g0,rfl,⟨hn,hn'.2⟩,hh1,hh2,fun j hj=>hh3 j (by omega)⟩
    ·exact a8f (fun e=>hq ⟨O5 e.1,e.2⟩) (fun e=>l5 hnp y e.1.symm)
/-- A way of taking. -/
def b5o (φ:Sems) (tk:C→Pr C):Prop:=∀ {E:Env} {σ:St} {a:Act} {w:World} {G:GG},Rel E σ a w G→∀ (x i k:Nat),(∀ q,G (park x) (i::k::q)=none)→∀ {c:C} {v:Value},l4 E G σ.V w noG c v →
  ∀ {L:Log} {c':C} {σ':St} {L':Log},(tk c).run φ σ L=some (c',σ',L') →
  ∃ G',Rel E σ' a w G'∧l4 E G' σ'.V w (fun q=>G' (park x) (i::k::q)) c' v∧u7 G σ.V G' σ'.V∧(∀ y q,¬ (y=x∧[i,k] <+: q)→G' (park y) q=G (park y) q)
theorem c0D (φ:Sems):b5o φ b6z:=fun h x i k hp _ _ hc _ _ _ _ hrun=>c3R h φ x i k hp hc hrun
theorem e3z (φ:Sems):b5o φ d6V:=by
 intro E σ a w G h x i k hp c v hc L c' σ' L' hrun
 have triv:(c',σ',L')=(c,σ,L)→∃ G',Rel E σ' a w G'∧l4 E G' σ'.V w (fun q=>G' (park x) (i::k::q)) c' v∧u7 G σ.V G' σ'.V∧(∀ y q,¬ (y=x∧[i,k] <+: q)→G' (park y) q=G (park y) q):=by
  rintro ⟨⟩
  refine ⟨G,h,?_,u7.refl _ _,fun _ _ _=>rfl⟩
  have:(fun q=>G (park x) (i::k::q))=noG:=funext hp
  rw [this]
  exact hc
 cases c with
 | ref r ver p m s n =>
  simp only [d6V] at hrun
  cases hb:(Nat.beq (r % 4) 1&&Nat.blt 2 p.length) with
  | true =>
   rw [hb] at hrun
   exact triv (g7 hrun)
  | false =>
   rw [hb] at hrun
   exact c3R h φ x i k hp hc hrun
 | tr o t=>exact triv (g7 hrun)
 | pt y=>exact triv (g7 hrun)
 | fn f caps=>exact triv (g7 hrun)
 | dead=>exact triv (g7 hrun)
theorem e3A (φ:Sems) (x:Pt):b5o φ (e6O x):=by
 cases x with
 | pim m g=>exact c0D φ
 | ptr r ver p m j k=>cases p with
  | nil=>exact e3z φ
  | cons y p=>exact c0D φ
end Go.Mach
namespace Go.Mach
/-- The state speaks truly; nothing is in flight. -/
def S (E:Env) (σ:St) (a:Act) (w:World):Prop:=∃ G,Rel E σ a w G∧∀ y,G (park y)=noG
theorem Rel.toS {E σ a w G} (h:Rel E σ a w G):S E σ a w:=by
 classical
 refine ⟨fun r=>if notPark r then G r else noG,h.parks _ (fun r hr=>by simp [hr]) ?_ ?_,fun y=>by simp [S1 y]⟩
 ·intro r p r' p' ad c ad' c' h1 h2 hb
  by_cases e:notPark r <;> by_cases e':notPark r' <;> simp [e,e',noG] at h1 h2
  exact h.inj _ _ _ _ _ _ _ _ h1 h2 hb
 ·intro r p ad c h1
  by_cases e:notPark r <;> simp [e,noG] at h1
  exact h.rng _ _ _ _ h1
theorem c2s {α β:Type} (g:Nat→α→β) (l:List α) (i j:Nat):(Z9 g i l)[j]?=(l[j]?).map (g (i+j)):=by
 induction l generalizing i j with
 | nil=>simp [Z9]
 | cons a l ih =>
  cases j with
  | zero=>simp [Z9]
  | succ j =>
   simp only [Z9,List.getElem?_cons_succ,ih]
   congr 2
   omega
theorem b4u {α β:Type} (g:Nat→α→β) (l:List α) (i:Nat):(Z9 g i l).length=l.length:=by
 induction l generalizing i with
 | nil=>rfl
 | cons a l ih=>simp [Z9,ih]
theorem l4.view {E G V w r c v} {pp:Path} (hnp:notPark r) (hpp:pp≠[]) (h:l4 E G V w (fun q=>G r (pp ++ q)) c v):l4 E G V w noG (D2 r (V r) pp c) v:=by
 cases c with
 | tr o t =>
  cases o with
  | false=>exact h
  | true =>
   cases t with
   | arr m n f =>
    rcases h with ⟨g0,rfl,rfl⟩ | ⟨b,off,cap,cs,e,g0,rfl,hn,_⟩
    ·exact ⟨none,0,rfl,Nat.le_refl _,⟨hnp,hpp⟩,Nat.le_refl _,fun _=>.inl ⟨by simpa using g0,rfl,rfl,rfl,rfl⟩⟩
    ·exact ⟨_,cap,rfl,hn.1,⟨hnp,hpp⟩,Nat.le_refl _,fun _=>.inr ⟨b,off,cap,by simpa using g0,fun _=>⟨rfl,rfl⟩,fun _=>by simp⟩⟩
   | lent m n=>exact RelOwn.one h
   | _=>exact h
 | _=>exact h
theorem RelCs.view {E G V w r i cs vs} (hnp:notPark r) (h:RelCs E G V w (fun k q=>G r (i::k::q)) cs vs):RelCs E G V w (fun _=>noG) (Z9 (fun k c=>D2 r (V r) [i,k] c) 0 cs) vs:=by
 refine ⟨by rw [b4u];exact h.1,fun k c hk=>?_⟩
 rw [c2s,Nat.zero_add] at hk
 obtain ⟨c0,h0,rfl⟩:=Option.map_eq_some_iff.1 hk
 obtain ⟨u,hu,hr⟩:=h.2 k c0 h0
 exact ⟨u,hu,hr.view (pp:=[i,k]) hnp (by simp)⟩
theorem i7.view {E G V w r i row v} (hnp:notPark r) (h:i7 E G V w (fun k q=>G r (i::k::q)) row v):i7 E G V w (fun _=>noG) (row.1,Z9 (fun k c=>D2 r (V r) [i,k] c) 0 row.2) v:=by
 obtain ⟨ag,cs⟩:=row
 cases ag with
 | true=>obtain ⟨vs,e,hc⟩:=h;exact ⟨vs,e,hc.view hnp⟩
 | false=>match cs,h with
  | [],hx=>exact hx
  | [c],hx=>exact l4.view (pp:=[i,0]) hnp (by simp) hx
theorem RelRows.view {E G V w r rows v} (hnp:notPark r) (h:RelRows E G V w (G r) rows v):RelRows E G V w noG (O3 r (V r) rows) v:=by
 match rows,h with
 | [],_=>trivial
 | [row],h=>exact i7.view (i:=0) (row:=row) hnp h
 | a::b::l,⟨vs,e,hs,hh⟩ =>
  refine ⟨vs,e,by simp only [O3,Z9,List.length_cons,b4u] at *;exact hs,fun i row hi=>?_⟩
  have hi':(O3 r (V r) (a::b::l))[i]?=some row:=hi
  rw [O3,c2s,Nat.zero_add] at hi'
  obtain ⟨row0,h0,rfl⟩:=Option.map_eq_some_iff.1 hi'
  obtain ⟨u,hu,hr⟩:=hh i row0 h0
  exact ⟨u,hu,hr.view hnp⟩
theorem c3S {E G V w} (v:Value) (h:v.oneCell'=true):l4 E G V w noG (c3M v) v:=by
 unfold c3M
 split
 ·rfl
 ·rfl
 ·rfl
 ·exact .inl ⟨rfl,rfl,rfl⟩
 ·exact h
theorem b4v {E G V w} {v:Value} {row:Row} (h:ofValue v=some row):i7 E G V w (fun _=>noG) row v:=by
 unfold ofValue at h
 split at h
 ·rename_i cs
  cases hall:(cs.toList.all (·.oneCell')) with
  | false=>simp [hall] at h
  | true =>
   simp only [hall,cond_true,Option.some.injEq] at h
   subst h
   refine ⟨cs,rfl,by simp,fun k c hk=>?_⟩
   simp only [List.getElem?_map] at hk
   obtain ⟨u,hu,rfl⟩:=Option.map_eq_some_iff.1 hk
   exact ⟨u,by simpa using hu,c3S u (List.all_eq_true.1 hall u (List.mem_of_getElem? hu))⟩
 ·cases hall:v.oneCell' with
  | false=>simp [hall] at h
  | true =>
   simp only [hall,cond_true,Option.some.injEq] at h
   subst h
   exact c3S v hall
theorem a0r {E σ a w G} (h:Rel E σ a w G) {φ x L rows σ' L'} (hr:(b4q x).run φ σ L=some (rows,σ',L')):σ'=σ∧RelRows E G σ.V w noG rows (a.eval x):=by
 cases x with
 | tmp t =>
  have:=g7 (φ:=φ) hr
  simp at this
  obtain ⟨rfl,rfl,rfl⟩:=this
  exact ⟨rfl,(h.slots t).view (a8e t)⟩
 | const v =>
  simp only [b4q] at hr
  cases hv:ofValue v with
  | none=>rw [hv] at hr;exact (i5 hr).elim
  | some r =>
   rw [hv] at hr
   have:=g7 hr
   simp at this
   obtain ⟨rfl,rfl,rfl⟩:=this
   exact ⟨rfl,b4v hv⟩
 | func f =>
  have:=g7 (φ:=φ) hr
  simp at this
  obtain ⟨rfl,rfl,rfl⟩:=this
  exact ⟨rfl,⟨#[],rfl,rfl,fun i x hi=>by simp at hi⟩⟩
 | global g=>exact (i5 hr).elim
theorem d3C {E σ a w G} (h:Rel E σ a w G) {φ x L rows σ' L'} (hr:(d6U x).run φ σ L=some (rows,σ',L')):σ'=σ∧RelRows E G σ.V w noG rows (a.eval x):=by
 cases x with
 | tmp t =>
  have:(b4q (.tmp t)).run φ σ L=some (rows,σ',(slot t,.rd)::L):=by
   have e:some (O3 (slot t) (σ.get (slot t)).ver (σ.get (slot t)).rows,σ,(slot t,Acc.tp)::L)=some (rows,σ',L'):=hr
   obtain ⟨rfl,rfl,_⟩:_=rows∧σ=σ'∧_=L':=by simpa only [Option.some.injEq,Prod.mk.injEq] using e
   rfl
  exact a0r h this
 | const v=>exact a0r h hr
 | func f=>exact a0r h hr
 | global g=>exact a0r h hr
theorem Q3 {E σ a w G} (h:Rel E σ a w G) {φ x L row σ' L'} (hr:(a2i x).run φ σ L=some (row,σ',L')):σ'=σ∧i7 E G σ.V w (fun _=>noG) row (a.eval x):=by
 obtain ⟨rows,σ1,L1,h1,h2⟩:=run_bind hr
 obtain ⟨rfl,hrel⟩:=a0r h h1
 match rows,h2,hrel with
 | [],h2,_=>exact (i5 h2).elim
 | [r],h2,hrel =>
  have:=g7 h2
  simp at this
  obtain ⟨rfl,rfl,rfl⟩:=this
  exact ⟨rfl,hrel⟩
 | _::_::_,h2,_=>exact (i5 h2).elim
theorem o7 {E σ a w G} (h:Rel E σ a w G) {φ x L c σ' L'} (hr:(C0 x).run φ σ L=some (c,σ',L')):σ'=σ∧l4 E G σ.V w noG c (a.eval x):=by
 obtain ⟨row,σ1,L1,h1,h2⟩:=run_bind hr
 obtain ⟨rfl,hrel⟩:=Q3 h h1
 match row,h2,hrel with
 | (true,_),h2,_=>exact (i5 h2).elim
 | (false,[]),h2,_=>exact (i5 h2).elim
 | (false,[c']),h2,hrel =>
  have:=g7 h2
  simp at this
  obtain ⟨rfl,rfl,rfl⟩:=this
  exact ⟨rfl,hrel⟩
 | (false,_::_::_),h2,_=>exact (i5 h2).elim
theorem D5 {E σ a w G} (h:Rel E σ a w G) (x:Nat) {φ dst L rows v σ' L' u} (hr:RelRows E G σ.V w (G (park x)) rows v) (hrun:(put dst rows).run φ σ L=some (u,σ',L')):S E σ' (a.put dst v) w:=by
 cases dst with
 | none =>
  have:=g7 hrun
  simp at this
  obtain ⟨rfl,rfl⟩:=this
  exact h.toS
 | some d =>
  obtain ⟨hh,h2⟩:=a4I hrun
  have:=g7 h2
  simp at this
  obtain ⟨rfl,rfl⟩:=this
  exact (h.put d x hh hr).toS
/-- A value that owns nothing. -/
theorem d7c {E σ a w} (h:S E σ a w) {φ dst L rows v σ' L' u} (hr:∀ G,Rel E σ a w G→(∀ y,G (park y)=noG)→RelRows E G σ.V w noG rows v) (hrun:(put dst rows).run φ σ L=some (u,σ',L')):S E σ' (a.put dst v) w:=by
 obtain ⟨G,hG,hp⟩:=h
 exact D5 hG 0 (by rw [hp 0];exact hr G hG hp) hrun
theorem b3B {E a w} (φ:Sems) {tk:C→Pr C} (htk:b5o φ tk) (y i:Nat) (vs:Array Value):∀ (l:List C) (k0:Nat) (σ:St) (G:GG),Rel E σ a w G →
  (∀ (j:Nat) c,l[j]?=some c→∃ u,vs[k0+j]?=some u∧l4 E G σ.V w noG c u)→(∀ k,k0≤k→∀ q,G (park y) (i::k::q)=none) →
  ∀ {L l' σ' L'},(a0a tk l).run φ σ L=some (l',σ',L') →
  ∃ G',Rel E σ' a w G'∧l'.length=l.length∧(∀ (j:Nat) c,l'[j]?=some c→∃ u,vs[k0+j]?=some u∧l4 E G' σ'.V w (fun q=>G' (park y) (i::(k0+j)::q)) c u) ∧
   u7 G σ.V G' σ'.V∧(∀ z q,¬ (z=y∧∃ k,k0≤k∧[i,k] <+: q)→G' (park z) q=G (park z) q)
 | [],k0,σ,G,h,_,_,L,l',σ',L',hrun=>by
  have:=g7 hrun
  simp at this
  obtain ⟨rfl,rfl,rfl⟩:=this
  exact ⟨G,h,rfl,fun j c hj=>by simp at hj,u7.refl _ _,fun _ _ _=>rfl⟩
 | c::l,k0,σ,G,h,hc,hp,L,l',σ',L',hrun=>by
  obtain ⟨c',σ1,L1,h1,h2⟩:=run_bind hrun
  obtain ⟨l1,σ2,L2,h3,h4⟩:=run_bind h2
  have:=g7 h4
  simp at this
  obtain ⟨rfl,rfl,rfl⟩:=this
  obtain ⟨u0,hu0,hr0⟩:=hc 0 c rfl
  obtain ⟨G1,hG1,hc1,hgood1,hpk1⟩:=htk h y i k0 (hp k0 (Nat.le_refl _)) hr0 h1
  obtain ⟨G2,hG2,hl2,hc2,hgood2,hpk2⟩:=b3B φ htk y i vs l (k0+1) σ1 G1 hG1
   (fun j c hj=>by
    obtain ⟨u,hu,hr⟩:=hc (j+1) c (by simpa using hj)
    exact ⟨u,by rw [← hu];congr 1;omega,hr.good hgood1⟩)
   (fun k hk q=>by
    rw [hpk1 y _ (by
     rintro ⟨_,hpre⟩
     rw [List.cons_prefix_cons,List.cons_prefix_cons] at hpre
     omega)]
    exact hp k (by omega) q) h3
  refine ⟨G2,hG2,by simp [hl2],fun j c hj=>?_,hgood1.trans hgood2,fun z q hz=>?_⟩
  ·cases j with
   | zero =>
    simp at hj
    subst hj
    refine ⟨u0,hu0,?_⟩
    have:(fun q=>G2 (park y) (i::(k0+0)::q))=fun q=>G1 (park y) (i::k0::q):=by
     funext q
     refine hpk2 y _ ?_
     rintro ⟨_,k,hk,hpre⟩
     rw [List.cons_prefix_cons,List.cons_prefix_cons] at hpre
     omega
    rw [this]
    exact hc1.good hgood2
   | succ j =>
    obtain ⟨u,hu,hr⟩:=hc2 j c (by simpa using hj)
    have e:k0+1+j=k0+(j+1):=by omega
    rw [e] at hu hr
    exact ⟨u,hu,hr⟩
  ·rw [hpk2 z q (fun ⟨e,k,hk,hpre⟩=>hz ⟨e,k,by omega,hpre⟩)]
   exact hpk1 z q fun ⟨e,hpre⟩=>hz ⟨e,k0,Nat.le_refl _,hpre⟩
/-- A row is taken: it is in flight at park y. -/
theorem b5p {E σ a w G} (h:Rel E σ a w G) (φ:Sems) {tk:C→Pr C} (htk:b5o φ tk) (y:Nat) (hp:G (park y)=noG) {row row':Row} {v:Value} {L σ' L'} (hrel:i7 E G σ.V w (fun _=>noG) row v)
  (hrun:(c2j tk row).run φ σ L=some (row',σ',L')) :
  ∃ G',Rel E σ' a w G'∧i7 E G' σ'.V w (fun k q=>G' (park y) (0::k::q)) row' v∧row'.2.length=row.2.length∧u7 G σ.V G' σ'.V∧∀ z,z≠y→G' (park z)=G (park z):=by
 obtain ⟨l',σ1,L1,h1,h2⟩:=run_bind hrun
 have:=g7 h2
 simp at this
 obtain ⟨rfl,rfl,rfl⟩:=this
 by_cases hne:row.2=[]
 ·obtain ⟨ag,cs⟩:=row
  simp only at hne h1
  subst hne
  have:=g7 h1
  simp at this
  obtain ⟨rfl,rfl,rfl⟩:=this
  refine ⟨G,h,?_,rfl,u7.refl _ _,fun _ _=>rfl⟩
  cases ag with
  | false=>exact hrel
  | true=>obtain ⟨vs,e,hc⟩:=hrel;exact ⟨vs,e,hc.1,fun k c hk=>by simp at hk⟩
 ·obtain ⟨vs,hc,back⟩:=i7.cs (ag:=row.1) (cs:=row.2) hrel hne
  obtain ⟨G',hG',hl,hc',hgood,hpk⟩:=b3B φ htk y 0 vs row.2 0 σ G h (fun j c hj=>by
   obtain ⟨u,hu,hr⟩:=hc.2 j c hj
   exact ⟨u,by rw [← hu];congr 1;omega,hr⟩) (fun k _ q=>by rw [hp];rfl) h1
  refine ⟨G',hG',?_,hl,hgood,fun z hz=>funext fun q=>hpk z q fun e=>hz e.1⟩
  have hcs:RelCs E G' σ'.V w (fun k q=>G' (park y) (0::k::q)) l' vs:=⟨by rw [hl];exact hc.1,fun k c hk=>by
   obtain ⟨u,hu,hr⟩:=hc' k c hk
   rw [Nat.zero_add] at hu hr
   exact ⟨u,hu,hr⟩⟩
  exact back _ _ _ _ _ _ hl hcs
theorem b5q {E σ a w G} (h:Rel E σ a w G) (φ:Sems) (y:Nat) (hp:G (park y)=noG) {row row':Row} {v:Value} {L σ' L'} (hrel:i7 E G σ.V w (fun _=>noG) row v)
  (hrun:(b1w row).run φ σ L=some (row',σ',L')) :
  ∃ G',Rel E σ' a w G'∧i7 E G' σ'.V w (fun k q=>G' (park y) (0::k::q)) row' v∧row'.2.length=row.2.length∧u7 G σ.V G' σ'.V∧∀ z,z≠y→G' (park z)=G (park z) :=
 b5p h φ (c0D φ) y hp hrel hrun
end Go.Mach
namespace Go.Mach
/-- What is shown of an operation: where the machine's program runs, the operation's wp holds. -/
def O7 (P:Program) (φ:Sems) (o:Oper) (p:Pr Unit):Prop:=∀ E σ a w L σ' L',S E σ a w→p.run φ σ L=some ((),σ',L')→∀ K Q,(∀ a' w',S E σ' a' w'→K a' w')→o.wp P a w K Q
section
variable {P:Program} {φ:Sems} {o:Oper} {a:Act} {w:World}
theorem m4 {K Q v w'} (h:(execOp a.eval o).run P w=.ok (.value v) w') (hk:K (a.put o.dst v) w'):o.wp P a w K Q:=by
 unfold Oper.wp;rw [h];exact hk
theorem d7d {K Q w'} (h:(execOp a.eval o).run P w=.ok .skip w') (hk:K (a.put o.dst undef) w'):o.wp P a w K Q:=by
 unfold Oper.wp;rw [h];exact hk
theorem f2E {s:Sem Value} {x w'} (h:s.run P w=.ok x w'):((do pure (Next.value (← s))):Sem Next).run P w=.ok (.value x) w':=by simp [h]
theorem Y7 (b o n:Nat):(⟨b,o,none⟩:Addr).add n=⟨b,o+n,none⟩:=by unfold Addr.add;split <;> simp_all
theorem l6 {t d} (h:P.underlying t=some d):(underlying t).run P w=.ok d w:=by simp [underlying,h]
theorem O8 {t i} (h:P.info? t=some i):(sizeOf t).run P w=.ok i.size w:=by simp [sizeOf,typeInfo,h]
theorem a3N {t} (h:m7 P t≠0):∃ i,P.info? t=some i∧i.size=m7 P t:=by
 unfold m7 at *
 cases e:P.info? t with
 | none=>simp [e] at h
 | some i=>exact ⟨i,rfl,rfl⟩
theorem a6e {t d} (h:P.underlying t=some d):(isAgg t).run P w=.ok (a0M P t) w:=by
 unfold isAgg a0M
 simp only [Sem.run_bind,l6 h,Result.andThen_ok,h]
 cases d <;> simp
theorem a6f {E G V g own p v} (h:l4 E G V w g (.tr own (.bool p)) v):v=.bool p:=by cases own <;> exact h
theorem a2c {E G V g own k p v} (h:l4 E G V w g (.tr own (.int k p)) v):v=.int k p:=by cases own <;> exact h
theorem b8B {E G V g own p v} (h:l4 E G V w g (.tr own (.str p)) v):v=.string p:=by cases own <;> exact h
theorem a0s {E σ G} (h:Rel E σ a w G) (hp:∀ y,G (park y)=noG) {dst L t v σ' L' u} (hr:RelOwn w t noG v) (hrun:(a1J dst t).run φ σ L=some (u,σ',L')):S E σ' (a.put dst v) w :=
 D5 h 0 (rows:=[(false,[.tr true t])]) (by rw [hp 0];exact hr) hrun
theorem V4 {E σ G} (h:Rel E σ a w G) (hp:∀ y,G (park y)=noG) {dst L c v σ' L' u} (hr:l4 E G σ.V w noG c v) (hrun:(b0w dst c).run φ σ L=some (u,σ',L')):S E σ' (a.put dst v) w :=
 D5 h 0 (rows:=[(false,[c])]) (by rw [hp 0];exact hr) hrun
theorem e7w {dst x ty pos after guard}:O7 P φ ⟨dst,.move x,ty,pos,after,guard⟩ ((d6U x).bind (put dst)):=by
 intro E σ a w L σ' L' ⟨G,hG,hp⟩ hrun K Q hK
 obtain ⟨rows,σ1,L1,h1,h2⟩:=run_bind hrun
 obtain ⟨rfl,hrel⟩:=d3C hG h1
 exact m4 (v:=a.eval x) (w':=w) rfl (hK _ _ (D5 hG 0 (by rw [hp 0];exact hrel) h2))
theorem b3C {E σ G} (h:Rel E σ a w G) {tk:C→Pr C} (htk:b5o φ tk) (y:Nat) (hp:G (park y)=noG) {x row' L σ' L'} (hrun:(b8t tk x).run φ σ L=some (row',σ',L')) :
  ∃ G',Rel E σ' a w G'∧i7 E G' σ'.V w (fun k q=>G' (park y) (0::k::q)) row' (a.eval x)∧u7 G σ.V G' σ'.V∧∀ z,z≠y→G' (park z)=G (park z):=by
 obtain ⟨row,σ1,L1,h1,h2⟩:=run_bind hrun
 obtain ⟨rfl,hrel⟩:=Q3 h h1
 obtain ⟨G',hG',hr,_,hgood,hpk⟩:=b5p h φ htk y hp hrel h2
 exact ⟨G',hG',hr,hgood,hpk⟩
theorem a5m {E σ G} (h:Rel E σ a w G) (y:Nat) (hp:G (park y)=noG) {x row' L σ' L'} (hrun:(a8c x).run φ σ L=some (row',σ',L')) :
  ∃ G',Rel E σ' a w G'∧i7 E G' σ'.V w (fun k q=>G' (park y) (0::k::q)) row' (a.eval x)∧u7 G σ.V G' σ'.V∧∀ z,z≠y→G' (park z)=G (park z) :=
 b3C h (c0D φ) y hp hrun
theorem d0d {E:Env} {G:GG} {V:Nat→Ver} {w:World} {g:Gh} {t:TypeId} {c:C} {v:Value} (h:l4 E G V w g c v):l4 E G V w g (e3q P t c) v:=by
 unfold e3q
 split
 ·rename_i m n f
  cases hm:Nat.beq m 0 with
  | false=>exact h
  | true =>
   simp only [cond_true]
   split
   ·rcases h with ⟨h1,_,h3⟩ | ⟨b,off,cap,cs,e,_,_,h3,_⟩
    ·exact .inl ⟨h1,rfl,h3⟩
    ·have:=j8 hm
     omega
   ·exact h
 ·exact h
theorem c7G:∀ (ts:List TypeId) (cs:List C),(a0p P ts cs).length=cs.length
 | [],_=>by simp [a0p]
 | _::_,[]=>by simp [a0p]
 | t::ts,c::cs=>by simp [a0p,c7G ts cs]
theorem b8C {E:Env} {G:GG} {V:Nat→Ver} {w:World} {g:Gh} {v:Value}:∀ (ts:List TypeId) (cs:List C) (k:Nat) (c:C),(a0p P ts cs)[k]?=some c→∃ c0,cs[k]?=some c0∧(l4 E G V w g c0 v→l4 E G V w g c v)
 | [],cs,k,c,h=>⟨c,by simpa [a0p] using h,id⟩
 | _::_,[],k,c,h=>by simp [a0p] at h
 | t::ts,c0::cs,k,c,h=>by
  cases k with
  | zero=>simp [a0p] at h;subst h;exact ⟨c0,rfl,d0d⟩
  | succ k=>simpa using b8C ts cs k c (by simpa [a0p] using h)
theorem d8T {E:Env} {G:GG} {V:Nat→Ver} {w:World} {g:Nat→Gh} {ts:List TypeId} {cs:List C} {vs:Array Value} (h:RelCs E G V w g cs vs):RelCs E G V w g (a0p P ts cs) vs:=by
 refine ⟨by rw [c7G];exact h.1,fun k c hk=>?_⟩
 have hc:∃ c0,cs[k]?=some c0:=(b8C (P:=P) (E:=E) (G:=G) (V:=V) (w:=w) (g:=g k) (v:=undef) ts cs k c hk).imp fun _ h=>h.1
 obtain ⟨c0,hc0⟩:=hc
 obtain ⟨u,hu,hr⟩:=h.2 k c0 hc0
 obtain ⟨c1,hc1,hr1⟩:=b8C (P:=P) (E:=E) (G:=G) (V:=V) (w:=w) (g:=g k) (v:=u) ts cs k c hk
 rw [hc0] at hc1
 cases hc1
 exact ⟨u,hu,hr1 hr⟩
theorem b0U {E:Env} {G:GG} {V:Nat→Ver} {w:World} {g:Nat→Gh} {ts:List TypeId} {row:Row} {v:Value} (h:i7 E G V w g row v):i7 E G V w g (row.1,a0p P ts row.2) v:=by
 obtain ⟨ag,cs⟩:=row
 cases ag with
 | true=>obtain ⟨vs,e,hc⟩:=h;exact ⟨vs,e,d8T hc⟩
 | false=>match cs,h with
  | [],hx=>cases ts <;> exact hx
  | [c],hx=>cases ts with
   | nil=>exact hx
   | cons t ts=>cases ts <;> exact d0d hx
theorem d8U {dst x ty pos after guard}:O7 P φ ⟨dst,.assign x,ty,pos,after,guard⟩ ((a8c x).bind fun row=>put dst [(row.1,a0p P [ty] row.2)]):=by
 intro E σ a w L σ' L' ⟨G,hG,hp⟩ hrun K Q hK
 obtain ⟨row,σ1,L1,h1,h2⟩:=run_bind hrun
 obtain ⟨G',hG',hr,_,_⟩:=a5m hG 0 (hp 0) h1
 exact m4 (v:=a.eval x) (w':=w) rfl (hK _ _ (D5 hG' 0 (rows:=[(row.1,a0p P [ty] row.2)]) (b0U hr) h2))
theorem e7x {dst c x y ty pos after guard}:O7 P φ ⟨dst,.pick c x y,ty,pos,after,guard⟩ (opP P ⟨dst,.pick c x y,ty,pos,after,guard⟩):=by
 intro E σ a w L σ' L' ⟨G,hG,hp⟩ hrun K Q hK
 obtain ⟨c',σ1,L1,h1,h2⟩:=run_bind hrun
 obtain ⟨rfl,hrel⟩:=o7 hG h1
 split at h2
 ·rename_i p
  have hv:=a6f hrel
  have hx:(execOp a.eval ⟨dst,.pick c x y,ty,pos,after,guard⟩).run P w=.ok (.value (if p then a.eval x else a.eval y)) w:=by
   simp [execOp,hv,asBool]
  cases p with
  | true =>
   obtain ⟨rows,σ2,L2,h3,h4⟩:=run_bind (φ:=φ) (p:=b4q x) (g:=put dst) h2
   obtain ⟨rfl,hr2⟩:=a0r hG h3
   exact m4 hx (hK _ _ (D5 hG 0 (by rw [hp 0];exact hr2) h4))
  | false =>
   obtain ⟨rows,σ2,L2,h3,h4⟩:=run_bind (φ:=φ) (p:=b4q y) (g:=put dst) h2
   obtain ⟨rfl,hr2⟩:=a0r hG h3
   exact m4 hx (hK _ _ (D5 hG 0 (by rw [hp 0];exact hr2) h4))
 ·exact (i5 h2).elim
theorem f0J {dst t x ty pos after guard}:O7 P φ ⟨dst,.unOp .not t x,ty,pos,after,guard⟩ (opP P ⟨dst,.unOp .not t x,ty,pos,after,guard⟩):=by
 intro E σ a w L σ' L' ⟨G,hG,hp⟩ hrun K Q hK
 obtain ⟨c',σ1,L1,h1,h2⟩:=run_bind hrun
 obtain ⟨rfl,hrel⟩:=o7 hG h1
 split at h2
 ·rename_i b
  have hv:=a6f hrel
  exact m4 (v:=.bool !b) (w':=w) (by simp [execOp,hv,Op.unary]) (hK _ _ (a0s hG hp (t:=.bool !b) rfl h2))
 ·exact (i5 h2).elim
theorem d7e {dst x i ty pos after guard}:O7 P φ ⟨dst,.extract x i,ty,pos,after,guard⟩ (opP P ⟨dst,.extract x i,ty,pos,after,guard⟩):=by
 intro E σ a w L σ' L' ⟨G,hG,hp⟩ hrun K Q hK
 obtain ⟨rows,σ1,L1,h1,h2⟩:=run_bind hrun
 obtain ⟨rfl,hrel⟩:=a0r hG h1
 split at h2
 ·rename_i r r' rs
  split at h2
  ·rename_i row hi
   obtain ⟨vs,e,hs,hh⟩:=hrel
   obtain ⟨u,hu,hr⟩:=hh i row hi
   refine m4 (v:=u) (w':=w) (by simp [execOp,e,Instr.extract,hu]) (hK _ _ (D5 hG 0 (rows:=[row]) (by rw [hp 0];exact hr) h2))
  ·exact (i5 h2).elim
 ·exact (i5 h2).elim
theorem d3D {dst x ty pos after guard}:O7 P φ ⟨dst,.nilCheck x,ty,pos,after,guard⟩ (opP P ⟨dst,.nilCheck x,ty,pos,after,guard⟩):=by
 intro E σ a w L σ' L' ⟨G,hG,hp⟩ hrun K Q hK
 obtain ⟨c',σ1,L1,h1,h2⟩:=run_bind hrun
 obtain ⟨rfl,hrel⟩:=o7 hG h1
 split at h2
 ·rename_i p
  have:∃ ad,a.eval x=.pointer (some ad):=by
   cases p with
   | ptr r ver p m j k=>obtain ⟨b,o,hv,_⟩:=hrel;exact ⟨_,hv⟩
   | pim m g=>obtain ⟨b,o,hv,_⟩:=hrel;exact ⟨_,hv⟩
  obtain ⟨ad,hv⟩:=this
  refine m4 (v:=a.eval x) (w':=w) (by simp [execOp,hv]) (hK _ _ (V4 hG hp hrel h2))
 ·rename_i f caps
  obtain ⟨vs,hv,hs,hh⟩:=hrel
  refine m4 (v:=a.eval x) (w':=w) (by simp [execOp,hv]) (hK _ _ (V4 hG hp (c:=.fn f caps) ⟨vs,hv,hs,hh⟩ h2))
 ·exact (i5 h2).elim
theorem d3E {E G V x v} (off:Nat) (h:R1 E G V x v):∃ b o,v=.pointer (some ⟨b,o,none⟩)∧R1 E G V (c5z off x) (.pointer (some ⟨b,o+off,none⟩)):=by
 cases x with
 | ptr r ver p m j k =>
  obtain ⟨b,o,hv,h0,h1,h2⟩:=h
  refine ⟨b,o,hv,b,o+off,rfl,h0,h1,fun e=>?_⟩
  obtain ⟨f,cap,hg,ho⟩:=h2 e
  exact ⟨f,cap,hg,by omega⟩
 | pim m g =>
  obtain ⟨b,o,hv,hh⟩:=h
  refine ⟨b,o,hv,b,o+off,rfl,fun i hi=>?_⟩
  have:=hh (off+i) (by omega)
  rw [← Nat.add_assoc] at this
  exact this
theorem b1D {t k off ft} (h:b5k P t k=some (off,ft)):∃ fs f,P.underlying t=some (.struct fs)∧fs[k]?=some f∧f.offset=off∧f.type=ft:=by
 unfold b5k at h
 split at h
 ·rename_i fs hu
  split at h
  ·rename_i f hf
   simp only [Option.some.injEq,Prod.mk.injEq] at h
   exact ⟨fs,f,hu,hf,h.1,h.2⟩
  ·simp at h
 ·simp at h
theorem d0e {dst t x k ty pos after guard}:O7 P φ ⟨dst,.fieldAddr t x k,ty,pos,after,guard⟩ (opP P ⟨dst,.fieldAddr t x k,ty,pos,after,guard⟩):=by
 intro E σ a w L σ' L' ⟨G,hG,hp⟩ hrun K Q hK
 obtain ⟨c',σ1,L1,h1,h2⟩:=run_bind hrun
 obtain ⟨rfl,hrel⟩:=o7 hG h1
 simp only at h2
 split at h2
 ·rename_i off ft pt hf
  obtain ⟨fs,f,hu,hfk,ho,hft⟩:=b1D hf
  cases hz:Nat.beq (m7 P ft) 0 with
  | true=>rw [hz] at h2;exact (i5 h2).elim
  | false =>
   rw [hz] at h2
   have hne:m7 P ft≠0:=fun e=>by rw [e] at hz;cases hz
   obtain ⟨i,hi,his⟩:=a3N hne
   obtain ⟨b,o,hv,hpt⟩:=d3E off hrel
   refine m4 (v:=.pointer (some ⟨b,o+off,none⟩)) (w':=w) ?_ (hK _ _ (V4 hG hp (c:=.pt (c5z off pt)) hpt h2))
   have hsz:(sizeOf f.type).run P w=.ok i.size w:=O8 (hft ▸ hi)
   have hi0:i.size≠0:=his ▸ hne
   simp [execOp,Instr.fieldAt,l6 hu,hfk,hv,Instr.sureAddr,fieldPlace,hsz,hi0,Y7,ho]
 ·exact (i5 h2).elim
theorem b7t {E σ G} (h:Rel E σ a w G):∀ (l:List Operand) {cs L σ' L'},(a0a C0 l).run φ σ L=some (cs,σ',L')→σ'=σ∧cs.length=l.length∧∀ (i:Nat) c,cs[i]?=some c→∃ x,l[i]?=some x∧l4 E G σ.V w noG c (a.eval x)
 | [],cs,L,σ',L',hr=>by
  have:=g7 (φ:=φ) hr
  simp at this
  obtain ⟨rfl,rfl,rfl⟩:=this
  exact ⟨rfl,rfl,fun i c hi=>by simp at hi⟩
 | x::l,cs,L,σ',L',hr=>by
  obtain ⟨c,σ1,L1,h1,h2⟩:=run_bind hr
  obtain ⟨rfl,hrel⟩:=o7 h h1
  obtain ⟨cs',σ2,L2,h3,h4⟩:=run_bind h2
  obtain ⟨rfl,hl,hh⟩:=b7t h l h3
  have:=g7 h4
  simp at this
  obtain ⟨rfl,rfl,rfl⟩:=this
  refine ⟨rfl,by simp [hl],fun i c' hi=>?_⟩
  cases i with
  | zero=>simp at hi;subst hi;exact ⟨x,rfl,hrel⟩
  | succ i=>simp at hi;simpa using hh i c' hi
theorem c3T:∀ {cs:List C} {ps:List Pt},b6C cs=some ps→ps.length=cs.length∧∀ (i:Nat) x,ps[i]?=some x→cs[i]?=some (.pt x)
 | [],ps,h=>by
  simp only [b6C,Option.some.injEq] at h
  subst h
  exact ⟨rfl,fun i x hi=>by simp at hi⟩
 | c::cs,ps,h=>by
  cases c with
  | pt y =>
   simp only [b6C] at h
   cases e:b6C cs with
   | none=>simp [e] at h
   | some ps' =>
    simp only [e,Option.some.injEq] at h
    subst h
    obtain ⟨h1,h2⟩:=c3T e
    refine ⟨by simp [h1],fun i x hi=>?_⟩
    cases i with
    | zero=>simp at hi;subst hi;rfl
    | succ i=>simp at hi;simpa using h2 i x hi
  | _=>simp [b6C] at h
theorem d3F {dst f first caps ty pos after guard}:O7 P φ ⟨dst,.makeFunc (.func f) first caps,ty,pos,after,guard⟩ (opP P ⟨dst,.makeFunc (.func f) first caps,ty,pos,after,guard⟩):=by
 intro E σ a w L σ' L' ⟨G,hG,hp⟩ hrun K Q hK
 simp only [opP] at hrun
 cases hz:Nat.beq first.size 0 with
 | false=>rw [hz] at hrun;exact (i5 hrun).elim
 | true =>
  rw [hz] at hrun
  have hf0:first=#[]:=by have:=j8 hz;exact Array.eq_empty_of_size_eq_zero this
  subst hf0
  obtain ⟨cs,σ1,L1,h1,h2⟩:=run_bind (φ:=φ) (p:=a0a C0 caps.toList) hrun
  obtain ⟨rfl,hl,hh⟩:=b7t hG _ h1
  split at h2
  ·rename_i ps hps
   refine m4 (v:=.func (.func f) #[] (caps.map a.eval)) (w':=w) (by simp [execOp,Instr.makeFunc]) (hK _ _ (V4 hG hp (c:=.fn f ps) ?_ h2))
   obtain ⟨hlen,hall⟩:=c3T hps
   refine ⟨_,rfl,by simp [hlen,hl],fun i x hi=>?_⟩
   obtain ⟨y,hy,hrel⟩:=hh i _ (hall i x hi)
   exact ⟨a.eval y,by simp at hy;simp [hy],hrel⟩
  ·exact (i5 h2).elim
theorem RelCs.drop {E G V cs vs} (h:RelCs E G V w (fun _=>noG) cs vs) (off n:Nat) (hl:off+n≤cs.length):RelCs E G V w (fun _=>noG) ((cs.drop off).take n) (vs.extract off (off+n)):=by
 have hs:=h.1
 refine ⟨by simp;omega,fun k c hk=>?_⟩
 rw [List.getElem?_take] at hk
 split at hk
 ·rename_i hlt
  rw [List.getElem?_drop] at hk
  obtain ⟨u,hu,hr⟩:=h.2 _ _ hk
  refine ⟨u,?_,hr⟩
  have hb:off+k < vs.size:=(Array.getElem?_eq_some_iff.1 hu).1
  rw [Array.getElem?_extract]
  simp only [hu]
  rw [if_pos (by omega)]
 ·simp at hk
theorem e3B {dst t x k ty pos after guard}:O7 P φ ⟨dst,.field t x k,ty,pos,after,guard⟩ (opP P ⟨dst,.field t x k,ty,pos,after,guard⟩):=by
 intro E σ a w L σ' L' ⟨G,hG,hp⟩ hrun K Q hK
 obtain ⟨row,σ1,L1,h1,h2⟩:=run_bind hrun
 obtain ⟨rfl,hrel⟩:=Q3 hG h1
 simp only at h2
 split at h2
 ·rename_i off ft cs hf
  obtain ⟨fs,f,hu,hfk,ho,hft⟩:=b1D hf
  obtain ⟨hle0,h2⟩:=j9 h2
  simp only [Bool.and_eq_true] at hle0
  obtain ⟨hok,hle⟩:=hle0
  have hle:=Nat.le_of_ble_eq_true hle
  obtain ⟨vs,hv,hcs⟩:=hrel
  cases hd:P.underlying ft with
  | none=>simp [a2X,hd] at hok
  | some d =>
   cases hag:a0M P ft with
   | true =>
    simp only [szA,hag,cond_true] at hle h2
    have hne:∃ i,P.info? ft=some i:=by
     unfold Program.underlying at hd
     cases e:P.info? ft with
     | none=>simp [e] at hd
     | some i=>exact ⟨i,rfl⟩
    obtain ⟨i,hi⟩:=hne
    have hsz:m7 P ft=i.size:=by simp [m7,hi]
    refine m4 (v:=.agg (vs.extract off (off+m7 P ft))) (w':=w) ?_ (hK _ _ (D5 hG 0 (rows:=[(true,(cs.drop off).take (m7 P ft))]) (by rw [hp 0];exact ⟨_,rfl,hcs.drop off _ hle⟩) h2))
    simp [execOp,Instr.field,l6 hu,hfk,hv,asAgg,part,hft,a6e hd,hag,O8 hi,ho,hsz]
   | false =>
    simp only [szA,hag,cond_false] at hle h2
    obtain ⟨c,hc⟩:∃ c,cs[off]?=some c:=⟨_,List.getElem?_eq_getElem (by omega)⟩
    have h1c:(cs.drop off).take 1=[c]:=by
     rw [List.take_one]
     simp [List.head?_drop,hc]
    rw [h1c] at h2
    obtain ⟨u,hu',hr⟩:=hcs.2 _ _ hc
    refine m4 (v:=u) (w':=w) ?_ (hK _ _ (D5 hG 0 (rows:=[(false,[c])]) (by rw [hp 0];exact hr) h2))
    simp [execOp,Instr.field,l6 hu,hfk,hv,asAgg,part,hft,a6e hd,hag,ho,hu']
 ·exact (i5 h2).elim
theorem d7f {E G V c v n t ty} (h:l4 E G V w noG c v) (hn:e3u (P.underlying t) c=some n):(Builtin.len_ #[t] ty #[v]).run P w=.ok (.int .i64 n) w:=by
 unfold e3u at hn
 split at hn
 ·rename_i e own m n' f hu
  simp only [Option.some.injEq] at hn
  subst hn
  cases own with
  | true=>rcases h with ⟨_,rfl,rfl⟩ | ⟨b,off,cap,cs,e',_,rfl,_⟩ <;> simp [Builtin.len_,l6 hu,goInt]
  | false=>obtain ⟨A,cap,rfl,_⟩:=h;simp [Builtin.len_,l6 hu,goInt]
 ·rename_i own s hu
  simp only [Option.some.injEq] at hn
  subst hn
  have:=b8B h
  subst this
  simp [Builtin.len_,l6 hu,goInt]
 ·rename_i e r ver p m s n' hu
  simp only [Option.some.injEq] at hn
  subst hn
  obtain ⟨A,cap,rfl,_⟩:=h
  simp [Builtin.len_,l6 hu,goInt]
 ·simp at hn
theorem f0K {dst x t ty pos after guard}:O7 P φ ⟨dst,.call ⟨.builtin .len,#[x],#[t]⟩,ty,pos,after,guard⟩ ((C0 x).bind (e3v P t dst)):=by
 intro E σ a w L σ' L' ⟨G,hG,hp⟩ hrun K Q hK
 obtain ⟨c',σ1,L1,h1,h2⟩:=run_bind hrun
 obtain ⟨rfl,hrel⟩:=o7 hG h1
 unfold e3v at h2
 split at h2
 ·rename_i n hn
  refine m4 (v:=.int .i64 n) (w':=w) ?_ (hK _ _ (a0s hG hp (t:=.int .i64 n) rfl h2))
  have:=d7f (w:=w) (ty:=ty) hrel hn
  simp [execOp,resolve,invoke,builtin,this]
 ·exact (i5 h2).elim
theorem e3C {dst t x i ty pos after guard}:O7 P φ ⟨dst,.index t x i,ty,pos,after,guard⟩ (opP P ⟨dst,.index t x i,ty,pos,after,guard⟩):=by
 intro E σ a w L σ' L' ⟨G,hG,hp⟩ hrun K Q hK
 obtain ⟨c',σ1,L1,h1,h2⟩:=run_bind hrun
 obtain ⟨rfl,hrel⟩:=o7 hG h1
 obtain ⟨ci,σ1,L1,h3,h4⟩:=run_bind h2
 obtain ⟨rfl,hreli⟩:=o7 hG h3
 split at h4
 ·rename_i iv own s hi hu
  obtain ⟨hb,h4⟩:=j9 h4
  simp only [Bool.and_eq_true,decide_eq_true_eq,Nat.blt_eq] at hb
  have hiv:∃ o,ci=.tr o (.int .i64 iv):=by
   unfold b8x at hi
   split at hi
   ·rename_i o n
    simp only [Option.some.injEq] at hi
    subst hi
    exact ⟨o,rfl⟩
   ·simp at hi
  obtain ⟨oi,rfl⟩:=hiv
  have hv:=b8B hrel
  have hvi:=a2c hreli
  refine m4 (v:=.int .u8 (s.data.getD iv.toNat 0).toNat) (w':=w) ?_ (hK _ _ (a0s hG hp (t:=.int .u8 (s.data.getD iv.toNat 0).toNat) rfl h4))
  have hlt:iv.toNat < s.data.size:=hb.2
  have e1:s[iv.toNat]?=some (s.data[iv.toNat]'hlt):=by
   rw [getElem?_pos s iv.toNat hb.2]
   rfl
  have e2:s.data.getD iv.toNat 0=s.data[iv.toNat]'hlt:=by rw [Array.getD_eq_getD_getElem?,Array.getElem?_eq_getElem hlt];rfl
  simp [execOp,Instr.index,hv,hvi,asIntOf,l6 hu,hb.1,e1,e2]
 ·exact (i5 h4).elim
def c5D:T→Value
 | .int k n=>.int k n
 | .bool b=>.bool b
 | .str s=>.string s
 | _=>undef
theorem b8D {ρ1 ρ2:Operand} {op k x k' y t}:(eqGuard op t ρ1 ρ2 (.int k x) (.int k' y)).run P w=.ok () w:=by
 unfold eqGuard
 cases op <;> simp
theorem e7y {ρ1 ρ2:Operand} {op k x y t u} (h:c9O op k x y=some u):((do eqGuard op t ρ1 ρ2 (.int k x) (.int k y);binOp op t (.int k x) (.int k y)):Sem Value).run P w=.ok (c5D u) w∧RelOwn w u noG (c5D u):=by
 unfold c9O at h
 split at h <;> first
  | (simp at h;done)
  | (simp only [Option.some.injEq] at h;subst h;exact ⟨by simp [b8D,binOp,Op.intArith,Op.intBits,Op.intCmp,c5D],rfl⟩)
theorem e7z {ρ1 ρ2:Operand} {op x y t u} (h:c9P op x y=some u):((do eqGuard op t ρ1 ρ2 (.string x) (.string y);binOp op t (.string x) (.string y)):Sem Value).run P w=.ok (c5D u) w∧RelOwn w u noG (c5D u):=by
 unfold c9P at h
 split at h <;> first
  | (simp at h;done)
  | (simp only [Option.some.injEq] at h;subst h;exact ⟨by simp [eqGuard,binOp,Op.stringOp,c5D],rfl⟩)
/-- The array b5u with the cells from 'off' on. -/
def b6G (E:Env) (G:GG) (V:Nat→Ver) (w:World) (cs:List C) (off n:Nat) (X:Array Value):Prop :=
 X.size=n∧∀ k,k < n→∃ c u,cs[off+k]?=some c∧X[k]?=some u∧l4 E G V w noG c u
theorem b6G.part {E G V cs off n X} (h:b6G E G V w cs off n X) (o m:Nat) (hm:o+m≤n):b6G E G V w cs (off+o) m (X.extract o (o+m)):=by
 have hs:=h.1
 refine ⟨by simp;omega,fun k hk=>?_⟩
 obtain ⟨c,u,h1,h2,h3⟩:=h.2 (o+k) (by omega)
 refine ⟨c,u,by rw [← h1];congr 1;omega,?_,h3⟩
 rw [Array.getElem?_extract]
 simp only [h2]
 rw [if_pos (by omega)]
/-- The value of type t b5u with the cells from 'off' on. -/
def e3D (P:Program) (E:Env) (G:GG) (V:Nat→Ver) (w:World) (t:TypeId) (cs:List C) (off:Nat) (v:Value):Prop :=
 (a0M P t=true∧∃ X,v=.agg X∧b6G E G V w cs off (m7 P t) X)∨(a0M P t=false∧∃ c,cs[off]?=some c∧l4 E G V w noG c v)
theorem b8E {t} (h:a2X P t=true):∃ d i,P.underlying t=some d∧P.info? t=some i∧m7 P t=i.size:=by
 unfold a2X at h
 cases hd:P.underlying t with
 | none=>simp [hd] at h
 | some d =>
  have:∃ i,P.info? t=some i:=by
   unfold Program.underlying at hd
   cases e:P.info? t with
   | none=>simp [e] at hd
   | some i=>exact ⟨i,rfl⟩
  obtain ⟨i,hi⟩:=this
  exact ⟨d,i,rfl,hi,by simp [m7,hi]⟩
theorem d0f {E G V cs off n X t o} (h:b6G E G V w cs off n X) (hok:a2X P t=true) (hle:o+szA P t≤n):∃ v,(part t X o).run P w=.ok v w∧e3D P E G V w t cs (off+o) v:=by
 obtain ⟨d,i,hd,hi,hs⟩:=b8E hok
 cases hag:a0M P t with
 | true =>
  simp only [szA,hag,cond_true] at hle
  exact ⟨.agg (X.extract o (o+m7 P t)),by simp [part,a6e hd,hag,O8 hi,hs],.inl ⟨hag,_,rfl,h.part o _ hle⟩⟩
 | false =>
  simp only [szA,hag,cond_false] at hle
  obtain ⟨c,u,h1,h2,h3⟩:=h.2 o (by omega)
  exact ⟨u,by simp [part,a6e hd,hag,h2],.inr ⟨hag,c,h1,h3⟩⟩
theorem a9r {t fs} (h:P.underlying t=some (.struct fs)):a0M P t=true:=by simp [a0M,h]
theorem c3U {E G V} {cs ds:List C}:∀ (d e:Nat) (t:TypeId) (off:Nat) (b:Bool) (x y:Value),c9Q P d t cs ds off=some b→e3D P E G V w t cs off x→e3D P E G V w t ds off y →
  (Op.equalIn (d+e) t x y).run P w=.ok b w
 | 0,_,_,_,_,_,_,h,_,_=>by simp [c9Q] at h
 | d+1,e,t,off,b,x,y,h,hx,hy=>by
  have he:d+1+e=d+e+1:=by omega
  rw [he]
  simp only [c9Q] at h
  split at h
  ·rename_i k0 hu
   have hag:a0M P t=false:=by simp [a0M,hu]
   rcases hx with ⟨h1,_⟩ | ⟨_,c,hc,hr⟩
   ·rw [hag] at h1;cases h1
   rcases hy with ⟨h1,_⟩ | ⟨_,c',hc',hr'⟩
   ·rw [hag] at h1;cases h1
   rw [hc,hc'] at h
   split at h
   ·rename_i o1 k a o2 k' b' e1 e2
    obtain rfl:=Option.some.inj e1
    obtain rfl:=Option.some.inj e2
    rw [a2c hr,a2c hr']
    by_cases hk:k=k'
    ·subst hk
     simp at h
     subst h
     exact run_equalIn_int w _ _ _ _ _ _ hu
    ·simp [hk] at h
   ·simp at h
  ·rename_i hu
   have hag:a0M P t=false:=by simp [a0M,hu]
   rcases hx with ⟨h1,_⟩ | ⟨_,c,hc,hr⟩
   ·rw [hag] at h1;cases h1
   rcases hy with ⟨h1,_⟩ | ⟨_,c',hc',hr'⟩
   ·rw [hag] at h1;cases h1
   rw [hc,hc'] at h
   split at h
   ·rename_i o1 a o2 b' e1 e2
    obtain rfl:=Option.some.inj e1
    obtain rfl:=Option.some.inj e2
    rw [a6f hr,a6f hr']
    obtain rfl:=Option.some.inj h
    exact run_equalIn_bool' w _ _ _ _ hu
   ·simp at h
  ·rename_i fs hu
   obtain ⟨X,rfl,hX⟩:∃ X,x=.agg X∧b6G E G V w cs off (m7 P t) X:=by
    rcases hx with ⟨_,h⟩ | ⟨h1,_⟩
    ·exact h
    ·rw [a9r hu] at h1;cases h1
   obtain ⟨Y,rfl,hY⟩:∃ Y,y=.agg Y∧b6G E G V w ds off (m7 P t) Y:=by
    rcases hy with ⟨_,h⟩ | ⟨h1,_⟩
    ·exact h
    ·rw [a9r hu] at h1;cases h1
   cases hst:P.stoodInHeld t with
   | true=>simp [hst] at h
   | false =>
    have hf:P.fieldsOf t=fs:=by simp [Program.fieldsOf,hu]
    rw [run_equalIn_struct w _ t X Y (by rw [hf];exact hu) hst,hf]
    simp only [hst,cond_false] at h
    generalize fs.toList=l at h
    clear hu hf
    induction l generalizing b with
    | nil =>
     simp only [List.foldr_nil,Option.some.injEq] at h
     subst h
     simp [Op.eqFields]
    | cons f l ih =>
     simp only [List.foldr_cons] at h
     cases hg : (f.name != "_" && (a2X P f.type && Nat.ble (f.offset + szA P f.type) (m7 P t))) with
     | false=>simp [hg] at h
     | true =>
      simp only [hg,cond_true] at h
      simp only [Bool.and_eq_true,bne_iff_ne,ne_eq] at hg
      obtain ⟨hn,hok,hle⟩:=hg
      have hle:=Nat.le_of_ble_eq_true hle
      split at h
      ·rename_i b1 b2 e1 e2
       obtain ⟨v1,hv1,hf1⟩:=d0f hX hok hle
       obtain ⟨v2,hv2,hf2⟩:=d0f hY hok hle
       have h1:=c3U d e f.type _ b1 v1 v2 e1 hf1 hf2
       have h2:=ih b2 e2
       simp only [Op.eqFields,ne_eq,hn,not_false_eq_true,if_true,Sem.run_bind,hv1,Result.andThen_ok,hv2,h1]
       obtain rfl:=Option.some.inj h
       cases b1 with
       | true=>simpa using h2
       | false=>simp
      ·simp at h
  ·simp at h
theorem c7H {E G V t x y b vx vy} {ρ1 ρ2:Operand} (h:eqP P t x y=some b) (hx:i7 E G V w (fun _=>noG) x vx) (hy:i7 E G V w (fun _=>noG) y vy) :
  ((do eqGuard .eql t ρ1 ρ2 vx vy;binOp .eql t vx vy):Sem Value).run P w=.ok (.bool b) w∧((do eqGuard .neq t ρ1 ρ2 vx vy;binOp .neq t vx vy):Sem Value).run P w=.ok (.bool !b) w:=by
 unfold eqP at h
 split at h
 ·rename_i cs ds
  cases hg:P.eqGuardType P.depth t with
  | true=>simp [hg] at h
  | false =>
   simp only [hg,cond_false] at h
   split at h
   ·rename_i fs hu
    cases hl:(Nat.beq cs.length (m7 P t)&&Nat.beq ds.length (m7 P t)) with
    | false=>simp [hl] at h
    | true =>
     simp only [hl,cond_true] at h
     simp only [Bool.and_eq_true] at hl
     have l1:=j8 hl.1
     have l2:=j8 hl.2
     obtain ⟨X,rfl,hX⟩:=hx
     obtain ⟨Y,rfl,hY⟩:=hy
     have fX:b6G E G V w cs 0 (m7 P t) X:=⟨by rw [hX.1,l1],fun k hk=>by
      obtain ⟨u,hu',hr⟩:=hX.2 k cs[k] (List.getElem?_eq_getElem (by omega))
      exact ⟨_,u,by rw [Nat.zero_add];exact List.getElem?_eq_getElem (by omega),hu',hr⟩⟩
     have fY:b6G E G V w ds 0 (m7 P t) Y:=⟨by rw [hY.1,l2],fun k hk=>by
      obtain ⟨u,hu',hr⟩:=hY.2 k ds[k] (List.getElem?_eq_getElem (by omega))
      exact ⟨_,u,by rw [Nat.zero_add];exact List.getElem?_eq_getElem (by omega),hu',hr⟩⟩
     have:=c3U 20 9980 t 0 b _ _ h (.inl ⟨a9r hu,X,rfl,fX⟩) (.inl ⟨a9r hu,Y,rfl,fY⟩)
     exact ⟨by simp [run_eqGuard_agg w .eql t ρ1 ρ2 X Y hg,run_eql_struct,this],by simp [run_eqGuard_agg w .neq t ρ1 ρ2 X Y hg,run_neq_struct,this]⟩
   ·simp at h
 ·rename_i o1 p o2 q
  split at h
  ·rename_i hu
   obtain rfl:=Option.some.inj h
   have e1:=a6f (show l4 E G V w noG (.tr o1 (.bool p)) vx from hx)
   have e2:=a6f (show l4 E G V w noG (.tr o2 (.bool q)) vy from hy)
   subst e1 e2
   exact ⟨by simp [eqGuard,binOp,Op.equal,Op.maxDepth,run_equalIn_bool' w 9999 t p q hu],by simp [eqGuard,binOp,Op.equal,Op.maxDepth,run_equalIn_bool' w 9999 t p q hu]⟩
  ·simp at h
 ·simp at h
theorem d7g {E G V t x y op vx vy u} {ρ1 ρ2:Operand} {σ σ':St} {L L':Log} (h:(e3t P op t x y).run φ σ L=some (u,σ',L')) (hx:i7 E G V w (fun _=>noG) x vx) (hy:i7 E G V w (fun _=>noG) y vy) :
  σ'=σ∧∃ v,((do eqGuard op t ρ1 ρ2 vx vy;binOp op t vx vy):Sem Value).run P w=.ok v w∧RelOwn w u noG v:=by
 unfold e3t at h
 split at h
 ·rename_i o1 k a o2 k' b
  have e1:=a2c (show l4 E G V w noG (.tr o1 (.int k a)) vx from hx)
  have e2:=a2c (show l4 E G V w noG (.tr o2 (.int k' b)) vy from hy)
  subst e1 e2
  by_cases hk:k=k'
  ·subst hk
   simp only [decide_true,cond_true] at h
   split at h
   ·obtain ⟨hb,h⟩:=j9 h
    have:=g7 h
    simp only [Prod.mk.injEq] at this
    obtain ⟨rfl,rfl,rfl⟩:=this
    have hb0:¬ b=0:=by simpa using hb
    exact ⟨rfl,.int k (k.wrap (a.tdiv b)),by simp [b8D,binOp,Op.intDiv,hb0],rfl⟩
   ·obtain ⟨hb,h⟩:=j9 h
    have:=g7 h
    simp only [Prod.mk.injEq] at this
    obtain ⟨rfl,rfl,rfl⟩:=this
    have hb0:¬ b=0:=by simpa using hb
    exact ⟨rfl,.int k (a.tmod b),by simp [b8D,binOp,Op.intDiv,hb0],rfl⟩
   ·split at h
    ·rename_i u' hu
     have:=g7 h
     simp only [Prod.mk.injEq] at this
     obtain ⟨rfl,rfl,rfl⟩:=this
     obtain ⟨h1,h2⟩:=e7y (w:=w) (P:=P) (ρ1:=ρ1) (ρ2:=ρ2) (t:=t) hu
     exact ⟨rfl,_,h1,h2⟩
    ·exact (i5 h).elim
  ·simp only [hk,decide_false,cond_false] at h
   exact (i5 h).elim
 ·rename_i o1 a o2 b
  have e1:=b8B (show l4 E G V w noG (.tr o1 (.str a)) vx from hx)
  have e2:=b8B (show l4 E G V w noG (.tr o2 (.str b)) vy from hy)
  subst e1 e2
  split at h
  ·rename_i u' hu
   have:=g7 h
   simp only [Prod.mk.injEq] at this
   obtain ⟨rfl,rfl,rfl⟩:=this
   obtain ⟨h1,h2⟩:=e7z (w:=w) (P:=P) (ρ1:=ρ1) (ρ2:=ρ2) (t:=t) hu
   exact ⟨rfl,_,h1,h2⟩
  ·exact (i5 h).elim
 ·split at h
  ·rename_i b hb
   have:=g7 h
   simp only [Prod.mk.injEq] at this
   obtain ⟨rfl,rfl,rfl⟩:=this
   exact ⟨rfl,_,(c7H hb hx hy).1,rfl⟩
  ·rename_i b hb
   have:=g7 h
   simp only [Prod.mk.injEq] at this
   obtain ⟨rfl,rfl,rfl⟩:=this
   exact ⟨rfl,_,(c7H hb hx hy).2,rfl⟩
  ·exact (i5 h).elim
theorem e3E {dst op t x y yt ty pos after guard}:O7 P φ ⟨dst,.binOp op t x y yt,ty,pos,after,guard⟩ (opP P ⟨dst,.binOp op t x y yt,ty,pos,after,guard⟩):=by
 intro E σ a w L σ' L' ⟨G,hG,hp⟩ hrun K Q hK
 obtain ⟨rx,σ1,L1,h1,h2⟩:=run_bind hrun
 obtain ⟨rfl,hx⟩:=Q3 hG h1
 obtain ⟨ry,σ1,L1,h3,h4⟩:=run_bind h2
 obtain ⟨rfl,hy⟩:=Q3 hG h3
 obtain ⟨u,σ1,L1,h5,h6⟩:=run_bind h4
 obtain ⟨rfl,v,hv,hr⟩:=d7g (ρ1:=x) (ρ2:=y) h5 hx hy
 exact m4 (v:=v) (w':=w) (f2E hv) (hK _ _ (a0s hG hp hr h6))
end
end Go.Mach
namespace Go.Mach
section
variable {P:Program} {φ:Sems} {a:Act} {w:World}
theorem b5r {α:Type} {Q:Nat→α→Prop}:∀ (n:Nat),(∀ i,i < n→∃ u,Q i u)→∃ l:List α,l.length=n∧∀ (i:Nat) u,l[i]?=some u→Q i u
 | 0,_=>⟨[],rfl,fun i u hi=>by simp at hi⟩
 | n+1,h=>by
  obtain ⟨l,hl,hh⟩:=b5r n fun i hi=>h i (by omega)
  obtain ⟨u,hu⟩:=h n (by omega)
  refine ⟨l ++ [u],by simp [hl],fun i x hi=>?_⟩
  by_cases e:i < n
  ·rw [List.getElem?_append_left (by omega)] at hi
   exact hh i x hi
  ·rw [List.getElem?_append_right (by omega),hl] at hi
   have hi0:i - n=0:=by
    have:=(List.getElem?_eq_some_iff.1 hi).1
    simp at this
    omega
   rw [hi0] at hi
   simp at hi
   subst hi
   have:i=n:=by omega
   subst this
   exact hu
/-- A load, of cells that are told one by one. -/
theorem a4C {E G V} (t:TypeId) (b o:Nat) (cs:List C) (hok:a2X P t=true) (hl:cs.length=szA P t)
  (hc:∀ (i:Nat) c,cs[i]?=some c→∃ u,w.cell? ⟨b,o+i,none⟩=some u∧l4 E G V w noG c u) :
  ∃ v,(loadVar t ⟨b,o,none⟩).run P w=.ok v w∧i7 E G V w (fun _=>noG) (a0M P t,cs) v:=by
 obtain ⟨d,i,hd,hi,hs⟩:=b8E hok
 cases hag:a0M P t with
 | true =>
  simp only [szA,hag,cond_true] at hl
  obtain ⟨us,hus,hh⟩:=b5r (Q:=fun i u=>w.cell? ⟨b,o+i,none⟩=some u∧∀ c,cs[i]?=some c→l4 E G V w noG c u) cs.length (fun i hi=>by
   obtain ⟨u,h1,h2⟩:=hc i cs[i] (List.getElem?_eq_getElem hi)
   exact ⟨u,h1,fun c h=>by
    rw [List.getElem?_eq_getElem hi] at h
    obtain rfl:=Option.some.inj h
    exact h2⟩)
  have hrun:=run_loadCells_list (P:=P) (w:=w) ⟨b,o,none⟩ us (fun j v hj=>by rw [Y7];exact (hh j v hj).1)
  have hlen:us.length=i.size:=by omega
  rw [hlen] at hrun
  refine ⟨.agg us.toArray,by simp [loadVar,a6e hd,hag,O8 hi,hrun],us.toArray,rfl,by simp [hus],fun k c hk=>?_⟩
  have hk':k < us.length:=by rw [hus];exact (List.getElem?_eq_some_iff.1 hk).1
  exact ⟨us[k],by simp [hk'],(hh k us[k] (List.getElem?_eq_getElem hk')).2 c hk⟩
 | false =>
  simp only [szA,hag,cond_false] at hl
  match cs,hl with
  | [c],_ =>
   obtain ⟨u,h1,h2⟩:=hc 0 c rfl
   rw [Nat.add_zero] at h1
   exact ⟨u,by simp [loadVar,a6e hd,hag,h1],h2⟩
theorem Rel.cell0 {E σ G} (h:Rel E σ a w G) {b o:Nat} (hb:E.N b) {u} (hc:E.w0.cell? ⟨b,o,none⟩=some u):w.cell? ⟨b,o,none⟩=some u:=by
 unfold World.cell? at *
 rw [h.kept b hb]
 exact hc
theorem O9 {b i:Nat} {cs:Array Value} {e fr} (h:w.heap[b]?=some (.cells cs e fr)):w.cell? ⟨b,i,none⟩=cs[i]?:=by simp [World.cell?,h]
/-- What a pointer leads to: the root's content. -/
theorem Rel.nested {E σ G} (h:Rel E σ a w G) {r:Nat} {p:Path} {m n:Nat} {f:Nat→Nat→T} (hnp:notPark r) (hat:rowsAt (σ.get r).rows p=some (.arr m n f)) (hn:0 < n) :
  ∃ b off cap cs e,G r p=some (⟨b,off,none⟩,cap)∧n≤cap∧w.heap[b]?=some (.cells cs e (0,0))∧off+cap*m≤cs.size ∧
   ∀ j,j < n→∀ k,k < m→∃ u,cs[off+(j*m+k)]?=some u∧RelOwn w (f j k) (fun q=>G r (p ++ j::k::q)) u:=by
 have:∃ v',RelOwn w (.arr m n f) (fun q=>G r (p ++ q)) v':=by
  obtain ⟨t,rfl | rfl | rfl⟩:=a3b hnp
  ·exact (h.slots t).at hat
  ·exact (h.box' t).at hat
  ·exact (h.exts t).at hat
 obtain ⟨v',⟨_,h0,_⟩ | ⟨b,off,cap,cs,e,h1,h2,h3,h4,h5,h6⟩⟩:=this
 ·omega
 ·exact ⟨b,off,cap,cs,e,by simpa using h1,h3.1,h4,h5,h6⟩
theorem d7h {z:C} {u:T} (h:b5j z u=true):c9I z u=u:=by
 unfold b5j at h
 split at h <;> rename_i hz
 ·cases u <;> simp [T.isI] at h
  subst h;rfl
 ·cases u <;> simp [T.isB] at h
  rfl
 ·cases u <;> simp [T.isS] at h
  rfl
 ·simp only [Bool.and_eq_true] at h
  have h1:=d0c h.1
  have h2:=j8 h.2
  simp only [c9I]
  rw [← h2]
  exact h1.symm
 ·cases h
theorem c1c {zs:List C} {g:Nat→T}:∀ {n:Nat},a0L zs g n=true→∀ i,i < n→a1a zs g i=g i
 | 0,_,i,hi=>by omega
 | n+1,h,i,hi=>by
  simp only [a0L,Bool.and_eq_true] at h
  by_cases e:i=n
  ·subst e
   unfold a1a
   cases hz:zs[i]? with
   | none=>rfl
   | some z=>rw [hz] at h;exact d7h h.2
  ·exact c1c h.1 i (by omega)
theorem b8F {α:Type} {zs:List C} {g:Nat→T} {n:Nat} (h:a0L zs g n=true) (k:Nat→T→α):((List.range n).map fun i=>k i (a1a zs g i))=(List.range n).map fun i=>k i (g i) :=
 List.map_congr_left fun i hi=>by rw [c1c h i (List.mem_range.1 hi)]
theorem d8V {t:TypeId} (hs:szA P t=1) {r ver:Nat} {p:Path} {m j k:Nat} {row:Row} {σ σ':St} {L L':Log} (h:(c9x P t r ver p m j k).run φ σ L=some (row,σ',L')) :
  ∃ L1,(c0y P t r ver p m j k).run φ σ L=some (row,σ',L1):=by
 match p,h with
 | [],h =>
  simp only [c9x,d0a] at h
  obtain ⟨h1,h⟩:=j9 h
  obtain ⟨h2,h⟩:=j9 h
  have h:=g7 h
  simp only [hdB] at h1 h2 h
  simp only [c0y,O6,h1,o4,Pr.run,cond_true]
  cases hj:(σ.get r).rows[j]? with
  | none=>rw [hj] at h2;cases h2
  | some y =>
   obtain ⟨g,cs⟩:=y
   rw [hj] at h2 h
   simp only at h2 h
   simp only [hs,h2,Pr.run,cond_true]
   simp only [Prod.mk.injEq] at h
   exact ⟨_,by rw [h.1,h.2.1]⟩
 | a::p,h =>
  simp only [c9x,d0a] at h
  obtain ⟨h1,h⟩:=j9 h
  obtain ⟨h2,h⟩:=j9 h
  obtain ⟨h3,h⟩:=j9 h
  have h:=g7 h
  simp only [hdE] at h1 h2 h3 h
  simp only [c0y,O6,h1,o4,Pr.run,cond_true,a7n,h2,hs,h3]
  simp only [Prod.mk.injEq] at h
  exact ⟨_,by rw [h.1,h.2.1]⟩
theorem c1d {E σ G} (h:Rel E σ a w G) {t x row L σ' L' v} (hr:R1 E G σ.V x v) (hrun:(c9y P t x).run φ σ L=some (row,σ',L')) :
  σ'=σ∧∃ b o u,v=.pointer (some ⟨b,o,none⟩)∧(loadVar t ⟨b,o,none⟩).run P w=.ok u w∧i7 E G σ.V w (fun _=>noG) row u:=by
 cases x with
 | pim m g =>
  obtain ⟨b,o,rfl,hh⟩:=hr
  obtain ⟨hb,hrun⟩:=j9 hrun
  simp only [Bool.and_eq_true] at hb
  obtain ⟨⟨hok,hle⟩,hsh⟩:=hb
  have hle:=Nat.le_of_ble_eq_true hle
  have:=g7 hrun
  simp only [Prod.mk.injEq] at this
  rw [b8F hsh fun _ t=>C.tr false t] at this
  obtain ⟨rfl,rfl,rfl⟩:=this
  obtain ⟨u,h1,h2⟩:=a4C (P:=P) (w:=w) (E:=E) (G:=G) (V:=σ'.V) t b o ((List.range (szA P t)).map fun i=>C.tr false (g i)) hok (by simp) (fun i c hi=>by
   simp only [List.getElem?_map] at hi
   obtain ⟨i',hi',rfl⟩:=Option.map_eq_some_iff.1 hi
   have hlt:i < szA P t:=by have:=(List.getElem?_eq_some_iff.1 hi').1;simpa using this
   have:i'=i:=by rw [List.getElem?_range hlt] at hi';exact (Option.some.inj hi').symm
   subst this
   obtain ⟨hN,u,hu,hrel⟩:=hh i' (by omega)
   exact ⟨u,h.cell0 hN hu,hrel⟩)
  exact ⟨rfl,b,o,u,rfl,h1,h2⟩
 | ptr r ver p m j k =>
  obtain ⟨b,o,rfl,⟨hnp,hbox⟩,hver,hval⟩:=hr
  obtain ⟨L',hrun⟩:∃ L1,(c0y P t r ver p m j k).run φ σ L=some (row,σ',L1):=by
   simp only [c9y] at hrun
   cases hs:Nat.beq (szA P t) 1 with
   | true=>rw [hs,cond_true] at hrun;exact d8V (j8 hs) hrun
   | false=>rw [hs,cond_false] at hrun;exact ⟨_,hrun⟩
  simp only [c0y,O6] at hrun
  obtain ⟨hb,hrun⟩:=j9 hrun
  have hv:(σ.get r).ver p=ver:=j8 hb
  obtain ⟨off,cap,hg,ho⟩:=hval hv
  match p,hbox,hg,hrun with
  | [],hbox,hg,hrun =>
   obtain ⟨t',rfl | rfl | rfl⟩:=a3b hnp
   ·have:=hbox rfl;unfold slot at this;omega
   rotate_left
   ·have:=hbox rfl;unfold ext at this;omega
   simp only at hrun
   split at hrun
   ·rename_i g cs hrow
    obtain ⟨hb,hrun⟩:=j9 hrun
    simp only [Bool.and_eq_true] at hb
    obtain ⟨hok,hle⟩:=hb
    have hle:=Nat.le_of_ble_eq_true hle
    have:=g7 hrun
    simp only [Prod.mk.injEq] at this
    obtain ⟨rfl,rfl,rfl⟩:=this
    rcases h.box' t' with h0 | ⟨row',b',cs',e',hrows,hg',hw,hc⟩
    ·rw [h0] at hrow;simp at hrow
    ·rw [hrows] at hrow
     rw [hg] at hg'
     simp only [Option.some.injEq,Prod.mk.injEq,Addr.mk.injEq,and_true] at hg'
     obtain ⟨⟨rfl,rfl⟩,rfl⟩:=hg'
     cases j with
     | succ j=>simp at hrow
     | zero =>
      simp only [List.getElem?_cons_zero,Option.some.injEq] at hrow
      subst hrow
      obtain ⟨u,h1,h2⟩:=a4C (P:=P) (w:=w) (E:=E) (G:=G) (V:=σ'.V) t b o (Z9 (fun i c=>D2 (box t') (σ'.get (box t')).ver [0,k+i] c) 0 ((cs.drop k).take (szA P t))) hok (by simp [b4u];omega) (fun i c hi=>by
       rw [c2s,Nat.zero_add] at hi
       obtain ⟨c0,hc0,rfl⟩:=Option.map_eq_some_iff.1 hi
       rw [List.getElem?_take] at hc0
       split at hc0
       ·rw [List.getElem?_drop] at hc0
        obtain ⟨u,hu,hrel⟩:=hc.2 _ _ hc0
        refine ⟨u,by rw [O9 hw,← hu];congr 1;omega,?_⟩
        have:=l4.view (pp:=[0,k+i]) (J1 t') (by simp) hrel
        exact this
       ·simp at hc0)
      exact ⟨rfl,b,o,u,rfl,h1,h2⟩
   ·exact (i5 hrun).elim
  | x::p',hbox,hg,hrun =>
   simp only at hrun
   ·obtain ⟨m',n',f,hat,_,hrun1⟩:=W4 hrun
    replace hrun1:=j9 hrun1
    obtain ⟨hb,hrun2⟩:=hrun1
    simp only [Bool.and_eq_true,Nat.blt_eq] at hb
    obtain ⟨⟨hok,hm,hj,hle⟩,hsh⟩:=hb
    have hm:=j8 hm
    subst hm
    have hle:=Nat.le_of_ble_eq_true hle
    have:=g7 hrun2
    simp only [Prod.mk.injEq] at this
    rw [b8F hsh fun i t=>D2 r (σ.get r).ver (x::p' ++ [j,k+i]) (C.tr true t)] at this
    obtain ⟨rfl,rfl,rfl⟩:=this
    obtain ⟨b',off',cap',cs,e,hg',_,hw,_,hh⟩:=h.nested hnp hat (by omega)
    rw [hg] at hg'
    simp only [Option.some.injEq,Prod.mk.injEq,Addr.mk.injEq,and_true] at hg'
    obtain ⟨⟨rfl,rfl⟩,rfl⟩:=hg'
    obtain ⟨u,h1,h2⟩:=a4C (P:=P) (w:=w) (E:=E) (G:=G) (V:=σ'.V) t b o ((List.range (szA P t)).map fun i=>D2 r (σ'.get r).ver (x::p' ++ [j,k+i]) (.tr true (f j (k+i)))) hok (by simp) (fun i c hi=>by
     simp only [List.getElem?_map] at hi
     obtain ⟨i',hi',rfl⟩:=Option.map_eq_some_iff.1 hi
     have hlt:i < szA P t:=by have:=(List.getElem?_eq_some_iff.1 hi').1;simpa using this
     have:i'=i:=by rw [List.getElem?_range hlt] at hi';exact (Option.some.inj hi').symm
     subst this
     obtain ⟨u,hu,hrel⟩:=hh j hj (k+i') (by omega)
     refine ⟨u,by rw [O9 hw,← hu];congr 1;omega,?_⟩
     have hrel':l4 E G σ'.V w (fun q=>G r ((x::p' ++ [j,k+i']) ++ q)) (.tr true (f j (k+i'))) u:=by
      have:(fun q=>G r ((x::p' ++ [j,k+i']) ++ q))=fun q=>G r (x::p' ++ j::(k+i')::q):=by funext q;simp
      rw [this];exact hrel
     have:=l4.view (pp:=x::p' ++ [j,k+i']) hnp (by simp) hrel'
     exact this)
    exact ⟨rfl,b,o,u,rfl,h1,h2⟩
theorem e7A {dst t x ty pos after guard}:O7 P φ ⟨dst,.load t x,ty,pos,after,guard⟩ (opP P ⟨dst,.load t x,ty,pos,after,guard⟩):=by
 intro E σ a w L σ' L' ⟨G,hG,hp⟩ hrun K Q hK
 obtain ⟨c',σ1,L1,h1,h2⟩:=run_bind hrun
 obtain ⟨rfl,hrel⟩:=o7 hG h1
 split at h2
 ·rename_i pt
  obtain ⟨row,σ1,L1,h3,h4⟩:=run_bind h2
  obtain ⟨rfl,b,o,u,hv,hl,hr⟩:=c1d hG hrel h3
  refine m4 (v:=u) (w':=w) (by simp [execOp,Instr.loadAt,hv,Instr.sureAddr,hl]) (hK _ _ (D5 hG 0 (rows:=[row]) (by rw [hp 0];exact hr) h4))
 ·exact (i5 h2).elim
theorem b3D {c i} (h:b8x c=some i):∃ o,c=.tr o (.int .i64 i):=by
 unfold b8x at h
 split at h
 ·rename_i o n
  simp only [Option.some.injEq] at h
  subst h
  exact ⟨o,rfl⟩
 ·simp at h
theorem a2j {t e} (h:a0q P t=some e):P.underlying t=some (.slice e):=by
 unfold a0q at h
 split at h
 ·rename_i e' hu
  simp only [Option.some.injEq] at h
  subst h
  exact hu
 ·simp at h
theorem a6g {m e} (h:b8v P m e=true):m=m7 P e∧m≠0:=by
 simp only [b8v,Bool.and_eq_true,Bool.not_eq_true'] at h
 refine ⟨j8 h.1,fun e=>?_⟩
 rw [e] at h
 simp [E5] at h
theorem a9s {e:TypeId} {m:Nat} (h:m=m7 P e) (hm:m≠0):(sizeOf e).run P w=.ok m w:=by
 obtain ⟨i,hi,hs⟩:=a3N (P:=P) (t:=e) (by rw [← h];exact hm)
 rw [O8 hi,hs,h]
theorem d0g {dst t x i ty pos after guard}:O7 P φ ⟨dst,.indexAddr t x i,ty,pos,after,guard⟩ (opP P ⟨dst,.indexAddr t x i,ty,pos,after,guard⟩):=by
 intro E σ a w L σ' L' ⟨G,hG,hp⟩ hrun K Q hK
 obtain ⟨c,σ1,L1,h1,h2⟩:=run_bind hrun
 obtain ⟨rfl,hrel⟩:=o7 hG h1
 obtain ⟨ci,σ1,L1,h3,h4⟩:=run_bind h2
 obtain ⟨rfl,hreli⟩:=o7 hG h3
 split at h4
 ·rename_i iv e hi he
  obtain ⟨oi,rfl⟩:=b3D hi
  have hvi:=a2c hreli
  have hu:=a2j he
  split at h4
  ·rename_i m n f
   obtain ⟨hb,h4⟩:=j9 h4
   simp only [Bool.and_eq_true,decide_eq_true_eq,Nat.blt_eq] at hb
   obtain ⟨hi0,hin,hm⟩:=hb
   obtain ⟨hm1,hm2⟩:=a6g hm
   obtain ⟨A,cap,hv,hn,hh⟩:=hrel
   obtain ⟨b,off,rfl,hN,hc⟩:=hh (by omega)
   have hlt:iv < n:=by omega
   refine m4 (v:=.pointer (some ⟨b,off+iv.toNat*m,none⟩)) (w':=w) ?_ (hK _ _ (V4 hG hp (c:=.pt (.pim m (f iv.toNat))) ⟨b,_,rfl,fun k hk=>⟨hN,?_⟩⟩ h4))
   ·have:(⟨b,off,none⟩:Addr).add (iv.toNat*m)=⟨b,off+iv.toNat*m,none⟩:=Y7 _ _ _
    simp [execOp,Instr.indexAt,hv,hvi,asIntOf,l6 hu,hi0,hlt,a9s hm1 hm2,this]
   ·obtain ⟨u,hu',hr⟩:=hc iv.toNat hin k hk
    exact ⟨u,by rw [Nat.add_assoc];exact hu',hr⟩
  ·rename_i r ver p m s n
   simp only [d0a,hdI] at h4
   obtain ⟨hb,h4⟩:=j9 h4
   simp only [Bool.and_eq_true,decide_eq_true_eq,Nat.blt_eq] at hb
   obtain ⟨hver,hi0,hin,hm⟩:=hb
   obtain ⟨hm1,hm2⟩:=a6g hm
   have hver:=j8 hver
   obtain ⟨A,cap,hv,hn,⟨hnp,hpn⟩,hle,hval⟩:=hrel
   have hlt:iv < n:=by omega
   have hn0:0 < n:=by omega
   have hval:=hval hver
   obtain ⟨b,off,c,hg,hA⟩:∃ b off c,G r p=some (⟨b,off,none⟩,c)∧A=some ⟨b,off+s*m,none⟩:=by
    rcases hval with ⟨_,h0,_⟩ | ⟨b,off,c,hg,_,hA⟩
    ·exact absurd h0 (by omega)
    ·exact ⟨b,off,c,hg,hA hn0⟩
   subst hA
   refine m4 (v:=.pointer (some ⟨b,off+s*m+iv.toNat*m,none⟩)) (w':=w) ?_ (hK _ _ (V4 hG hp (c:=.pt (.ptr r ver p m (s+iv.toNat) 0)) ⟨b,_,rfl,⟨hnp,fun e=>absurd e hpn⟩,hle,fun _=>⟨off,c,hg,?_⟩⟩ h4))
   ·have:(⟨b,off+s*m,none⟩:Addr).add (iv.toNat*m)=⟨b,off+s*m+iv.toNat*m,none⟩:=Y7 _ _ _
    simp [execOp,Instr.indexAt,hv,hvi,asIntOf,l6 hu,hi0,hlt,a9s hm1 hm2,this]
   ·rw [Nat.add_mul];omega
  ·exact (i5 h4).elim
 ·exact (i5 h4).elim
def b8G (lo:Option Int):Option Value:=lo.map fun i=>.int .i64 i
theorem b8H {E σ G} (h:Rel E σ a w G) {x i L σ' L'} (hrun:(c9S x).run φ σ L=some (i,σ',L')):σ'=σ∧x.map a.eval=b8G i:=by
 cases x with
 | none =>
  have:=g7 (φ:=φ) hrun
  simp only [Prod.mk.injEq] at this
  obtain ⟨rfl,rfl,rfl⟩:=this
  exact ⟨rfl,rfl⟩
 | some x =>
  obtain ⟨c,σ1,L1,h1,h2⟩:=run_bind hrun
  obtain ⟨rfl,hrel⟩:=o7 h h1
  split at h2
  ·rename_i i' hi
   have:=g7 (φ:=φ) h2
   simp only [Prod.mk.injEq] at this
   obtain ⟨rfl,rfl,rfl⟩:=this
   obtain ⟨o,rfl⟩:=b3D hi
   exact ⟨rfl,by simp [b8G,a2c hrel]⟩
  ·exact (i5 h2).elim
theorem a7s (isS:Bool) (len cap:Nat) (lo hi:Option Int) (h0:0≤lo.getD 0) (h1:lo.getD 0≤hi.getD len) (h2:hi.getD len≤len) (h3:len≤cap) :
  (Instr.sliceBounds isS len cap (b8G lo) (b8G hi) none).run P w=.ok ((lo.getD 0).toNat,(hi.getD len).toNat,cap) w:=by
 have h4:hi.getD len≤(cap:Int):=by omega
 cases hi with
 | none =>
  cases lo with
  | none=>simp [Instr.sliceBounds,b8G]
  | some l =>
   simp only [Option.getD_some,Option.getD_none] at *
   simp [Instr.sliceBounds,b8G,Instr.sliceBound,asIntOf,h0,h1]
 | some hh =>
  cases lo with
  | none =>
   simp only [Option.getD_some,Option.getD_none] at *
   simp [Instr.sliceBounds,b8G,Instr.sliceBound,asIntOf,h1,h4]
  | some l =>
   simp only [Option.getD_some] at *
   have h5:0≤hh:=by omega
   have h6:¬ (max hh 0 < l):=by omega
   simp [Instr.sliceBounds,b8G,Instr.sliceBound,asIntOf,h0,h4,h5,h6]
theorem c5E (A:Option Addr) (b o n:Nat) (h:A=some ⟨b,o,none⟩):A.map (·.add n)=some ⟨b,o+n,none⟩:=by
 subst h
 simp [Y7]
theorem e3F {dst t x lo hi ty pos after guard}:O7 P φ ⟨dst,.slice t x lo hi none,ty,pos,after,guard⟩ (opP P ⟨dst,.slice t x lo hi none,ty,pos,after,guard⟩):=by
 intro E σ a w L σ' L' ⟨G,hG,hp⟩ hrun K Q hK
 obtain ⟨c,σ1,L1,h1,h2⟩:=run_bind hrun
 obtain ⟨rfl,hrel⟩:=o7 hG h1
 obtain ⟨lo',σ1,L1,h3,h4⟩:=run_bind h2
 obtain ⟨rfl,hlo⟩:=b8H hG h3
 obtain ⟨hi',σ1,L1,h5,h6⟩:=run_bind h4
 obtain ⟨rfl,hhi⟩:=b8H hG h5
 split at h6
 ·rename_i g c' hs
  replace h6:=j9 h6
  obtain ⟨hb,h7⟩:=h6
  unfold d8Q at hs
  split at hs
  ·rename_i e m n f hu
   simp only [Option.some.injEq,Prod.mk.injEq] at hs
   obtain ⟨rfl,rfl⟩:=hs
   simp only [Bool.and_eq_true,decide_eq_true_eq] at hb
   obtain ⟨hm,hb0,hb1,hb2⟩:=hb
   obtain ⟨hm1,hm2⟩:=a6g hm
   obtain ⟨A,cap,hv,hn,hh⟩:=hrel
   have hsb:=a7s (P:=P) (w:=w) true n cap lo' hi' hb0 hb1 hb2 hn
   generalize hl:(lo'.getD 0).toNat=l at *
   generalize hhh:(hi'.getD (n:Int)).toNat=hh' at *
   have hlh:l≤hh':=by omega
   have hhn:hh'≤n:=by omega
   refine m4 (v:=.slice (if cap=l then A else A.map (·.add (l*m))) (hh' - l) (cap - l)) (w':=w) ?_ (hK _ _ (V4 hG hp (c:=.tr false (.arr m (hh' - l) (l3 l (hh' - l) f))) ?_ h7))
   ·simp [execOp,Instr.sliceAt,Instr.slice,l6 hu,hv,hlo,hhi,hsb,a9s hm1 hm2]
   ·refine ⟨_,_,rfl,by omega,fun hpos=>?_⟩
    have hne:¬ cap=l:=by omega
    obtain ⟨b,off,hA,hN,hc⟩:=hh (by omega)
    rw [if_neg hne]
    refine ⟨b,off+l*m,c5E _ _ _ _ hA,hN,fun j hj k hk=>?_⟩
    obtain ⟨u,hu',hr⟩:=hc (l+j) (by omega) k hk
    refine ⟨u,?_,by rw [b1h k hj];exact hr⟩
    have:off+l*m+(j*m+k)=off+((l+j)*m+k):=by rw [Nat.add_mul];omega
    rw [this]
    exact hu'
  ·rename_i e r ver p m s n hu
   simp only [Option.some.injEq,Prod.mk.injEq] at hs
   obtain ⟨rfl,rfl⟩:=hs
   simp only [Bool.and_eq_true,decide_eq_true_eq] at hb
   obtain ⟨hm,hb0,hb1,hb2⟩:=hb
   obtain ⟨hm1,hm2⟩:=a6g hm
   obtain ⟨A,cap,hv,hn,hnp,hle,hval⟩:=hrel
   have hsb:=a7s (P:=P) (w:=w) true n cap lo' hi' hb0 hb1 hb2 hn
   generalize hl:(lo'.getD 0).toNat=l at *
   generalize hhh:(hi'.getD (n:Int)).toNat=hh' at *
   have hlh:l≤hh':=by omega
   have hhn:hh'≤n:=by omega
   refine m4 (v:=.slice (if cap=l then A else A.map (·.add (l*m))) (hh' - l) (cap - l)) (w':=w) ?_ (hK _ _ (V4 hG hp (c:=.ref r ver p m (s+l) (hh' - l)) ?_ h7))
   ·simp [execOp,Instr.sliceAt,Instr.slice,l6 hu,hv,hlo,hhi,hsb,a9s hm1 hm2]
   ·refine ⟨_,_,rfl,by omega,hnp,hle,fun hver=>?_⟩
    rcases hval hver with ⟨g0,rfl,rfl,rfl,rfl⟩ | ⟨b,off,c,hg,hA0,hA⟩
    ·left
     have:l=0:=by omega
     have:hh'=0:=by omega
     subst l
     subst hh'
     exact ⟨g0,by omega,by omega,by simp,by omega⟩
    ·right
     refine ⟨b,off,c,hg,fun h0=>?_,fun hpos=>?_⟩
     ·have hs0:s=0:=by omega
      have hl0:l=0:=by omega
      obtain ⟨hA1,hc⟩:=hA0 hs0
      subst hl0
      refine ⟨?_,by omega⟩
      split
      ·exact hA1
      ·rw [c5E _ _ _ _ hA1];simp
     ·have hne:¬ cap=l:=by omega
      rw [if_neg hne,c5E _ _ _ _ (hA (by omega)),Nat.add_mul,Nat.add_assoc]
  ·rename_i own str hu
   simp only [Option.some.injEq,Prod.mk.injEq] at hs
   obtain ⟨rfl,rfl⟩:=hs
   simp only [Bool.and_eq_true,decide_eq_true_eq] at hb
   obtain ⟨hb0,hb1,hb2⟩:=hb
   have hv:=b8B hrel
   have hsb:=a7s (P:=P) (w:=w) false str.size str.size lo' hi' hb0 hb1 hb2 (Nat.le_refl _)
   refine m4 (v:=.string (str.extract (lo'.getD 0).toNat (hi'.getD str.size).toNat)) (w':=w) ?_ (hK _ _ (V4 hG hp (c:=.tr true (.str (str.extract (lo'.getD 0).toNat (hi'.getD str.size).toNat))) rfl h7))
   simp [execOp,Instr.sliceAt,Instr.slice,l6 hu,hv,hlo,hhi,hsb]
  ·simp at hs
 ·exact (i5 h6).elim
end
end Go.Mach
