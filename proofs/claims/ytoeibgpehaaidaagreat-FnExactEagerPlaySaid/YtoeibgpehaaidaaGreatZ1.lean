/- Lemmas and definitions of the proof (M7 M8 M9 N1 N2). Conditions: none. -/
import Derived.Test.YtoeibgpehaaidaaGreatZ0
set_option linter.all false
namespace Go.Mach
theorem V3.one {w N t v} (h:V3 w N t v):v.oneCell'=true:=by
 cases t with
 | arr m n f=>obtain ⟨A,cap,rfl,_⟩:=h;rfl
 | int k n=>cases h;rfl
 | bool b=>cases h;rfl
 | str s=>cases h;rfl
 | hole=>exact h
 | lent m n=>exact h
theorem l4.one {E G V w g c v} (h:l4 E G V w g c v):v.oneCell'=true:=by
 cases c with
 | tr o t=>cases o with
  | true=>exact RelOwn.one h
  | false=>exact V3.one h
 | ref r ver p m s n=>obtain ⟨A,cap,rfl,_⟩:=h;rfl
 | pt x=>cases x with
  | ptr r ver p m j k=>obtain ⟨b,o,rfl,_⟩:=h;rfl
  | pim m g=>obtain ⟨b,o,rfl,_⟩:=h;rfl
 | fn f caps=>obtain ⟨vs,rfl,_⟩:=h;rfl
 | dead=>exact h
theorem i7.cells {E G V w g row v} (h:i7 E G V w g row v) (hne:row.2≠[]):RelCs E G V w g row.2 v.cells:=by
 obtain ⟨ag,cs⟩:=row
 cases ag with
 | true=>obtain ⟨vs,rfl,hc⟩:=h;exact hc
 | false=>match cs,h with
  | [],h=>exact absurd rfl hne
  | [c],h =>
   have h1:l4 E G V w (g 0) c v:=h
   have:v.cells=#[v]:=by
    have:=h1.one
    cases v <;> simp [Value.cells,Value.oneCell'] at *
   rw [this]
   refine ⟨rfl,fun k c' hk=>?_⟩
   cases k with
   | zero=>simp at hk;subst hk;exact ⟨v,rfl,h1⟩
   | succ k=>simp at hk
section
variable {P:Program} {φ:Sems} {a:Act} {w:World}
theorem b0V (w:World) (o:Obj):Grew w (w.alloc o):=⟨rfl,rfl,rfl,by simp,fun b hb=>Go.RowKit.Below.heap_alloc w o b hb⟩
/-- The ghost behind a new box: what was in flight at park x lies in it. -/
def b4w (G:GG) (d x new:Nat):GG:=fun r=>if r=box d then fun p=>if p=[] then some (⟨new,0,none⟩,1) else G (park x) p else if r=park x then noG else G r
theorem b8I {G:GG} {d x new r p y} (h:b4w G d x new r p=some y):(r=box d∧p=[]∧y=(⟨new,0,none⟩,1))∨(r=box d∧G (park x) p=some y)∨(r≠box d∧r≠park x∧G r p=some y):=by
 unfold b4w at h
 split at h
 ·rename_i e
  dsimp only at h
  split at h
  ·exact .inl ⟨e,‹_›,(Option.some.inj h).symm⟩
  ·exact .inr (.inl ⟨e,h⟩)
 ·split at h
  ·simp [noG] at h
  ·exact .inr (.inr ⟨‹_›,‹_›,h⟩)
theorem e3G {G:GG} (h:a1M G) {d x new} (hn:∀ r p ad c,G r p=some (ad,c)→ad.block < new):a1M (b4w G d x new):=by
 intro r1 q1 r2 q2 ad c ad' c' h1 h2 hb
 rcases b8I h1 with ⟨e1,e1',y1⟩ | ⟨e1,g1⟩ | ⟨n1,m1,g1⟩ <;> rcases b8I h2 with ⟨e2,e2',y2⟩ | ⟨e2,g2⟩ | ⟨n2,m2,g2⟩
 ·exact ⟨e1.trans e2.symm,e1'.trans e2'.symm⟩
 ·cases y1;have:=hn _ _ _ _ g2;simp at hb;omega
 ·cases y1;have:=hn _ _ _ _ g2;simp at hb;omega
 ·cases y2;have:=hn _ _ _ _ g1;simp at hb;omega
 ·exact ⟨e1.trans e2.symm,(h _ _ _ _ _ _ _ _ g1 g2 hb).2⟩
 ·exact absurd (h _ _ _ _ _ _ _ _ g1 g2 hb).1.symm m2
 ·cases y2;have:=hn _ _ _ _ g1;simp at hb;omega
 ·exact absurd (h _ _ _ _ _ _ _ _ g1 g2 hb).1 m1
 ·exact h _ _ _ _ _ _ _ _ g1 g2 hb
theorem Rel.newBox {E σ G} (h:Rel E σ a w G) (d x:Nat) (hdn:d < E.nt) (hd:σ.has (box d)=true) {row:Row} {vs:Array Value} (hc:RelCs E G σ.V w (fun k q=>G (park x) (0::k::q)) row.2 vs) (e:TypeId) :
  Rel E (σ.set (box d) ⟨bump [] (σ.get (box d)).ver,[row]⟩) a (w.alloc (.cells vs e)) (b4w G d x w.heap.size):=by
 have hlt:∀ r p ad c,G r p=some (ad,c)→ad.block < w.heap.size:=fun r p ad c hg=>(h.rng _ _ _ _ hg).2
 have h1:=h.grew (b0V w (.cells vs e))
 refine (h1.root (box d) (J1 d) [row] [] (e3G h.inj hlt) ?_ (fun r' hr hne=>?_) (fun p hp=>absurd (List.nil_prefix) hp) (fun t e=>absurd e.symm (A3 t d)) (fun t e'=>⟨?_,fun ht=>absurd (a6d e') (by omega)⟩) (fun t e=>absurd e (K2 d t)) hd).1
 ·intro r p ad c hg
  rcases b8I hg with ⟨_,_,y⟩ | ⟨_,g⟩ | ⟨_,_,g⟩
  ·cases y
   exact ⟨.inl h.size,by simp⟩
  ·exact ⟨(h.rng _ _ _ _ g).1,by have:=(h.rng _ _ _ _ g).2;simp;omega⟩
  ·exact ⟨(h.rng _ _ _ _ g).1,by have:=(h.rng _ _ _ _ g).2;simp;omega⟩
 ·unfold b4w
  rw [if_neg hne,if_neg (l5 hr x)]
 ·have:=a6d e'
  subst this
  refine .inr ⟨row,w.heap.size,vs,e,rfl,by simp [b4w],heap_alloc_new w _,?_⟩
  have:(fun (k:Nat) (q:Path)=>b4w G d x w.heap.size (box d) (0::k::q))=fun k q=>G (park x) (0::k::q):=by
   funext k q
   simp [b4w]
  rw [this]
  exact hc.ext fun k p ad c hg=>(b0V w _).old _ (hlt _ _ _ _ hg)
theorem d4z {σ:St} {r:Nat} {ct:Ct} {d:Nat} {c:C} {L L' σ' u} (h:(b0w (some d) c).run φ (σ.set r ct) L=some (u,σ',L')):σ.has (slot d)=true:=by
 have:=(a4I h).1
 rw [R5] at *
 rwa [E1] at this
theorem c3V {E:Env} {σ:St} {G:GG} {d x new m:Nat} {row:Row} (hd:σ.has (box d)=true) :
  R1 E (b4w G d x new) (σ.set (box d) ⟨bump [] (σ.get (box d)).ver,[row]⟩).V (.ptr (box d) ((σ.get (box d)).ver []+1) [] m 0 0) (.pointer (some ⟨new,0,none⟩)) :=
 ⟨new,0,rfl,⟨J1 d,fun _=>by unfold box;omega⟩,by simp [St.V,n9,hd,c9W],fun _=>⟨0,1,by simp [b4w],by simp⟩⟩
theorem c3W (e:TypeId) (v:Value):(newVar e v).run P w=.ok ⟨w.heap.size,0,none⟩ (w.alloc (.cells v.cells e)):=by
 simp [newVar,newRow]
theorem b1E {e:TypeId} (h:(o8 P e).2≠[]):∃ v,(zeroValue e).run P w=.ok v w∧∀ E G V,i7 E G V w (fun _=>noG) (o8 P e) v:=by
 unfold o8 at *
 cases hi:P.info? e with
 | none=>simp [hi] at h
 | some i =>
  simp only [hi] at h ⊢
  cases hz:i.zero with
  | none=>simp [hz] at h
  | some v =>
   simp only [hz] at h ⊢
   cases hv:ofValue v with
   | none=>simp [hv] at h
   | some r=>exact ⟨v,by simp [zeroValue,typeInfo,hi,hz],fun E G V=>b0U (b4v hv)⟩
theorem e3H {dst e ty pos after guard}:O7 P φ ⟨dst,.alloc e,ty,pos,after,guard⟩ (opP P ⟨dst,.alloc e,ty,pos,after,guard⟩):=by
 intro E σ a w L σ' L' ⟨G,hG,hp⟩ hrun K Q hK
 cases dst with
 | none=>exact (i5 (φ:=φ) (α:=Unit) hrun).elim
 | some d =>
  obtain ⟨hb,h2⟩:=j9 (φ:=φ) (α:=Unit) hrun
  simp only [Bool.and_eq_true,Bool.not_eq_true'] at hb
  have hl:=j8 hb.1
  have hne:(o8 P e).2≠[]:=by
   intro e0
   rw [e0] at hl
   simp at hl
   rw [← hl] at hb
   simp [E5] at hb
  rw [O6] at h2
  obtain ⟨hd,h3⟩:=a4I h2
  obtain ⟨v,hz,hv⟩:=b1E (P:=P) (w:=w) hne
  have hrel:=(hv E G σ.V).cells hne
  have hrel':RelCs E G σ.V w (fun k q=>G (park 0) (0::k::q)) (o8 P e).2 v.cells:=by rw [hp 0];exact hrel
  have hnew:=hG.newBox d 0 (hG.here d (d4z h3)) hd (row:=o8 P e) hrel' e
  refine m4 (v:=.pointer (some ⟨w.heap.size,0,none⟩)) (w':=w.alloc (.cells v.cells e)) ?_ (hK _ _ (D5 hnew 0 (rows:=[(false,[.pt (.ptr (box d) ((σ.get (box d)).ver []+1) [] (m7 P e) 0 0)])]) (c3V (E:=E) hd) h3))
  simp [execOp,Instr.alloc,hz,c3W]
theorem f0L {dst e x ty pos after guard}:O7 P φ ⟨dst,.box e x,ty,pos,after,guard⟩ (opP P ⟨dst,.box e x,ty,pos,after,guard⟩):=by
 intro E σ a w L σ' L' ⟨G,hG,hp⟩ hrun K Q hK
 cases dst with
 | none=>exact (i5 (φ:=φ) (α:=Unit) hrun).elim
 | some d =>
  obtain ⟨row,σ1,L1,h1,h2⟩:=run_bind (φ:=φ) (p:=a8c x) hrun
  obtain ⟨G1,hG1,hr,_,_⟩:=a5m hG 0 (hp 0) h1
  obtain ⟨hb,h2⟩:=j9 h2
  simp only [Bool.and_eq_true,Bool.not_eq_true'] at hb
  have hne:row.2≠[]:=by
   intro e0
   have hl:=j8 hb.1
   rw [e0] at hl
   simp at hl
   rw [← hl] at hb
   simp [E5] at hb
  rw [O6] at h2
  obtain ⟨hd,h3⟩:=a4I h2
  have hnew:=hG1.newBox d 0 (hG1.here d (d4z h3)) hd (row:=row) (hr.cells hne) e
  refine m4 (v:=.pointer (some ⟨w.heap.size,0,none⟩)) (w':=w.alloc (.cells (a.eval x).cells e)) ?_ (hK _ _ (D5 hnew 0 (rows:=[(false,[.pt (.ptr (box d) ((σ1.get (box d)).ver []+1) [] (m7 P e) 0 0)])]) (c3V (E:=E) hd) h3))
  simp [execOp,Instr.box,c3W]
theorem d4A {m j k j' k':Nat} (hk:k < m) (hk':k' < m) (h:j*m+k=j'*m+k'):j=j'∧k=k':=by
 have h1:(j*m+k) / m=j:=by rw [Nat.mul_comm,Nat.mul_add_div (by omega),Nat.div_eq_of_lt hk];omega
 have h2:(j'*m+k') / m=j':=by rw [Nat.mul_comm,Nat.mul_add_div (by omega),Nat.div_eq_of_lt hk'];omega
 have:j=j':=by rw [← h1,← h2,h]
 subst this
 exact ⟨rfl,by omega⟩
/-- One cell of the array at p is written. -/
theorem c7I {w w':World} {b off cap j k:Nat} {u:Value} {t1:T} {m n:Nat} {f:Nat→Nat→T}:(p:Path)→{t t':T}→{g g':Gh}→{v:Value}→RelOwn w t g v→t.put (p ++ [j,k]) t1=some t'→t.at p=some (.arr m n f) →
  g p=some (⟨b,off,none⟩,cap)→(∀ b',b'≠b→w'.heap[b']?=w.heap[b']?) →
  (∀ cs e,w.heap[b]?=some (.cells cs e (0,0))→w'.heap[b]?=some (.cells (cs.setIfInBounds (off+(j*m+k)) u) e (0,0))) →
  (∀ q ad c,g q=some (ad,c)→ad.block=b→q=p)→(∀ q,¬ (p ++ [j,k]) <+: q→g' q=g q)→RelOwn w' t1 (fun q=>g' (p ++ j::k::q)) u→RelOwn w' t' g' v
 | [],t,t',g,g',v,h,hput,hat,hg,hw,hb,hu,hgg,h1=>by
  have:t=.arr m n f:=by
   have h2:T.at t []=some t:=by cases t <;> rfl
   exact Option.some.inj (h2.symm.trans hat)
  subst this
  simp only [List.nil_append,T.put] at hput
  cases hlt:(Nat.blt j n&&Nat.blt k m) with
  | false=>simp [hlt] at hput
  | true =>
   simp only [hlt,cond_true,T.put,Option.some.injEq] at hput
   subst hput
   simp only [Bool.and_eq_true,Nat.blt_eq] at hlt
   have hg0:g' []=g []:=hgg [] (by simp)
   rcases h with ⟨_,h0,_⟩ | ⟨b1,off1,cap1,cs,e',g1,h2,h3,h4,h5,h6⟩
   ·omega
   ·rw [hg] at g1
    simp only [Option.some.injEq,Prod.mk.injEq,Addr.mk.injEq,and_true] at g1
    obtain ⟨⟨rfl,rfl⟩,rfl⟩:=g1
    refine .inr ⟨b,off,cap,_,e',hg0.trans hg,h2,h3,hb _ _ h4,by simpa using h5,fun j' hj' k' hk'=>?_⟩
    obtain ⟨u',hu',hr'⟩:=h6 j' hj' k' hk'
    by_cases e:j'=j∧k'=k
    ·obtain ⟨rfl,rfl⟩:=e
     simp only [E5,Bool.and_self,cond_true]
     have hin:off+(j'*m+k') < cs.size:=(Array.getElem?_eq_some_iff.1 hu').1
     exact ⟨u,by simp [hin],h1⟩
    ·have hne:¬ off+(j*m+k)=off+(j'*m+k'):=fun x=>e (by
      obtain ⟨h1,h2⟩:=d4A hlt.2 hk' (by omega:j*m+k=j'*m+k')
      exact ⟨h1.symm,h2.symm⟩)
     have:(Nat.beq j' j&&Nat.beq k' k)=false:=by
      by_cases e1:j'=j
      ·have e2:k'≠k:=fun e2=>e ⟨e1,e2⟩
       simp [E4 e2]
      ·simp [E4 e1]
     simp only [this,cond_false]
     refine ⟨u',by rw [Array.getElem?_setIfInBounds_ne hne];exact hu',?_⟩
     have hsame:(fun q'=>g' (j'::k'::q'))=fun q'=>g (j'::k'::q'):=funext fun q'=>hgg _ (by
      intro hpre
      simp only [List.nil_append,List.cons_prefix_cons] at hpre
      exact e ⟨hpre.1.symm,hpre.2.1.symm⟩)
     rw [hsame]
     refine hr'.ext fun q ad c hq=>hw _ fun e2=>?_
     have:=hu _ _ _ hq e2
     simp at this
 | [x],t,t',g,g',v,h,hput,hat,hg,hw,hb,hu,hgg,h1=>by cases t <;> simp [T.at] at hat
 | j1::k1::p1,t,t',g,g',v,h,hput,hat,hg,hw,hb,hu,hgg,h1=>by
  cases t with
  | arr m1 n1 f1 =>
   simp only [List.cons_append,T.put] at hput
   simp only [T.at] at hat
   cases hlt:(Nat.blt j1 n1&&Nat.blt k1 m1) with
   | false=>simp [hlt] at hput
   | true =>
    simp only [hlt,cond_true] at hput hat
    simp only [Bool.and_eq_true,Nat.blt_eq] at hlt
    cases hp:(f1 j1 k1).put (p1 ++ [j,k]) t1 with
    | none=>simp [hp] at hput
    | some t2 =>
     simp only [hp,Option.some.injEq] at hput
     subst hput
     have hg0:g' []=g []:=hgg [] (by simp)
     rcases h with ⟨_,h0,_⟩ | ⟨b1,off1,cap1,cs,e',g1,h2,h3,h4,h5,h6⟩
     ·omega
     ·have hb1:b1≠b:=fun e=>by
       have:=hu _ _ _ g1 e
       simp at this
      refine .inr ⟨b1,off1,cap1,cs,e',hg0.trans g1,h2,h3,(hw _ hb1).trans h4,h5,fun j' hj' k' hk'=>?_⟩
      obtain ⟨u',hu',hr'⟩:=h6 j' hj' k' hk'
      refine ⟨u',hu',?_⟩
      by_cases e:j'=j1∧k'=k1
      ·obtain ⟨rfl,rfl⟩:=e
       simp only [E5,Bool.and_self,cond_true]
       exact c7I p1 hr' hp hat hg hw hb (fun q ad c hq e=>by
        have:=hu _ _ _ hq e
        simpa using this) (fun q hq=>hgg _ (by simpa using hq)) h1
      ·have:(Nat.beq j' j1&&Nat.beq k' k1)=false:=by
        by_cases e1:j'=j1
        ·have e2:k'≠k1:=fun e2=>e ⟨e1,e2⟩
         simp [E4 e2]
        ·simp [E4 e1]
       simp only [this,cond_false]
       have hsame:(fun q'=>g' (j'::k'::q'))=fun q'=>g (j'::k'::q'):=funext fun q'=>hgg _ (by
        intro hpre
        simp only [List.cons_append,List.cons_prefix_cons] at hpre
        exact e ⟨hpre.1.symm,hpre.2.1.symm⟩)
       rw [hsame]
       refine hr'.ext fun q ad c hq=>hw _ fun e2=>?_
       have:=hu _ _ _ hq e2
       simp only [List.cons.injEq] at this
       exact e ⟨this.1,this.2.1⟩
  | _=>simp [T.at] at hat
/-- How the world turns at a store. -/
structure Wrote (w w':World) (b o:Nat) (u:Value):Prop where
 os:w'.os=w.os
 tape:w'.tape=w.tape
 output:w'.output=w.output
 size:w'.heap.size=w.heap.size
 other:∀ b',b'≠b→w'.heap[b']?=w.heap[b']?
 here:∀ cs e,w.heap[b]?=some (.cells cs e (0,0))→w'.heap[b]?=some (.cells (cs.setIfInBounds o u) e (0,0))
theorem b0x (w:World) (b o:Nat) (u:Value):Wrote w (w.setCell ⟨b,o,none⟩ u) b o u where
 os:=rfl
 tape:=rfl
 output:=rfl
 size:=by simp
 other:=fun b' hb'=>heap_setCell_other w ⟨b,o,none⟩ b' u hb'
 here:=fun cs e h=>heap_setCell_same w b o cs e u h
theorem RelCs.setW {E G V w w' g g' cs vs k c'} (h:RelCs E G V w g cs vs) (hk:∀ u,vs[k]?=some u→l4 E G V w' (g' k) c' u) (hg:∀ k' c u,k'≠k→l4 E G V w (g k') c u→l4 E G V w' (g' k') c u) :
  RelCs E G V w' g' (cs.set k c') vs:=by
 refine ⟨by simpa using h.1,fun i c hi=>?_⟩
 by_cases e:i=k
 ·subst e
  have hlt:i < cs.length:=by simpa using (List.getElem?_eq_some_iff.1 hi).1
  have hv:i < vs.size:=by rw [h.1];exact hlt
  rw [List.getElem?_set_self hlt] at hi
  obtain rfl:=Option.some.inj hi
  exact ⟨vs[i],Array.getElem?_eq_getElem hv,hk _ (Array.getElem?_eq_getElem hv)⟩
 ·rw [List.getElem?_set_ne (fun x=>e x.symm)] at hi
  obtain ⟨u,hu,hr⟩:=h.2 i c hi
  exact ⟨u,hu,hg i c u e hr⟩
theorem i7.imp {E G V w w' g g' row v} (h:i7 E G V w g row v) (hg:∀ k c u,l4 E G V w (g k) c u→l4 E G V w' (g' k) c u):i7 E G V w' g' row v:=by
 obtain ⟨ag,cs⟩:=row
 cases ag with
 | true =>
  obtain ⟨vs,e,hc⟩:=h
  exact ⟨vs,e,hc.1,fun k c hk=>let ⟨u,hu,hr⟩:=hc.2 k c hk;⟨u,hu,hg k c u hr⟩⟩
 | false=>match cs,h with
  | [],h=>exact h
  | [c],h=>exact hg 0 c v h
theorem RelRows.rowW {E G V w g rows v i row} (h:RelRows E G V w g rows v) (hi:rows[i]?=some row):∃ u,i7 E G V w (fun k q=>g (i::k::q)) row u ∧
  (∀ w' g' row',(∀ i' k c x,i'≠i→l4 E G V w (fun q=>g (i'::k::q)) c x→l4 E G V w' (fun q=>g' (i'::k::q)) c x)→i7 E G V w' (fun k q=>g' (i::k::q)) row' u→RelRows E G V w' g' (rows.set i row') v):=by
 match rows,h with
 | [],_=>simp at hi
 | [r],h =>
  cases i with
  | zero=>simp at hi;subst hi;exact ⟨v,h,fun w' g' row' _ h'=>h'⟩
  | succ i=>simp at hi
 | r::r'::rs,⟨vs,e,hs,hh⟩ =>
  obtain ⟨u,hu,hr⟩:=hh i row hi
  refine ⟨u,hr,fun w' g' row' hg h'=>?_⟩
  have hl:i < (r::r'::rs).length:=(List.getElem?_eq_some_iff.1 hi).1
  have key:∀ l:List Row,l=(r::r'::rs).set i row'→RelRows E G V w' g' l v:=by
   intro l el
   have hlen:l.length=(r::r'::rs).length:=by rw [el];simp
   match l,hlen,el with
   | a::b::l,hlen,el =>
    refine ⟨vs,e,by omega,fun i' row'' hi'=>?_⟩
    rw [el] at hi'
    by_cases e':i'=i
    ·subst e'
     rw [List.getElem?_set_self hl] at hi'
     obtain rfl:=Option.some.inj hi'
     exact ⟨u,hu,h'⟩
    ·rw [List.getElem?_set_ne (fun x=>e' x.symm)] at hi'
     obtain ⟨u',hu',hr'⟩:=hh i' row'' hi'
     exact ⟨u',hu',hr'.imp fun k c x=>hg i' k c x e'⟩
  exact key _ rfl
/-- What is asked of the ghosts at a store. -/
structure StG (w w':World) (g g':Gh) (p:Path) (j k m off:Nat) (b cap:Nat) (u:Value) (t1:T):Prop where
 at_:g p=some (⟨b,off,none⟩,cap)
 wrote:Wrote w w' b (off+(j*m+k)) u
 only:∀ q ad c,g q=some (ad,c)→ad.block=b→q=p
 else_:∀ q,¬ (p ++ [j,k]) <+: q→g' q=g q
 new:RelOwn w' t1 (fun q=>g' (p ++ j::k::q)) u
theorem StG.other {E G V w w' g g' i k0 q j k m off b cap u t1} (h:StG w w' g g' (i::k0::q) j k m off b cap u t1) {i' k' c x} (hne:¬ (i'=i∧k'=k0)) (hr:l4 E G V w (fun q=>g (i'::k'::q)) c x) :
  l4 E G V w' (fun q=>g' (i'::k'::q)) c x:=by
 have hsame:(fun q'=>g' (i'::k'::q'))=fun q'=>g (i'::k'::q'):=funext fun q'=>h.else_ _ (by
  intro hp
  simp only [List.cons_append,List.cons_prefix_cons] at hp
  exact hne ⟨hp.1.symm,hp.2.1.symm⟩)
 rw [hsame]
 refine hr.ext fun q' ad c' hq=>h.wrote.other _ fun e=>?_
 have:=h.only _ _ _ hq e
 simp only [List.cons.injEq] at this
 exact hne ⟨this.1,this.2.1⟩
theorem StG.cell {E G V w w' g g' i k0 q j k m off b cap u t1 t0 t2 n f x} (h:StG w w' g g' (i::k0::q) j k m off b cap u t1) (hr:l4 E G V w (fun q=>g (i::k0::q)) (.tr true t0) x) (hput:t0.put (q ++ [j,k]) t1=some t2) (hat:t0.at q=some (.arr m n f)) :
  l4 E G V w' (fun q=>g' (i::k0::q)) (.tr true t2) x :=
 c7I q hr hput hat h.at_ h.wrote.other h.wrote.here (fun q' ad c hq e=>by
  have:=h.only _ _ _ hq e
  simpa using this) (fun q' hq'=>h.else_ _ (by simpa using hq')) h.new
theorem b8J {rows rows':List Row} {i k q j k' t1 m n f} (hput:C3 rows t1 (i::k::(q ++ [j,k']))=some rows') (hat:rowsAt rows (i::k::q)=some (.arr m n f)) :
  ∃ ag cs t0 t2,rows[i]?=some (ag,cs)∧cs[k]?=some (.tr true t0)∧t0.put (q ++ [j,k']) t1=some t2∧t0.at q=some (.arr m n f)∧rows'=rows.set i (ag,cs.set k (.tr true t2)):=by
 obtain ⟨i0,k0,q0,ag,cs,t0,t2,e0,h2,h3,h4,rfl⟩:=Y6 hput
 simp only [List.cons.injEq] at e0
 obtain ⟨rfl,rfl,rfl⟩:=e0
 obtain ⟨i1,k1,q1,ag',cs',t0',e1,h5,h6,h7⟩:=W0 hat
 simp only [List.cons.injEq] at e1
 obtain ⟨rfl,rfl,rfl⟩:=e1
 rw [h2] at h5
 simp only [Option.some.injEq,Prod.mk.injEq] at h5
 obtain ⟨rfl,rfl⟩:=h5
 rw [h3] at h6
 simp only [Option.some.injEq,C.tr.injEq,true_and] at h6
 subst h6
 exact ⟨ag,cs,t0,t2,h2,h3,h4,h7,rfl⟩
theorem RelRows.store {E G V w w' g g' rows rows' v i k q j k' t1 b off cap u m n f} (h:RelRows E G V w g rows v) (hput:C3 rows t1 (i::k::(q ++ [j,k']))=some rows') (hat:rowsAt rows (i::k::q)=some (.arr m n f))
  (hs:StG w w' g g' (i::k::q) j k' m off b cap u t1):RelRows E G V w' g' rows' v:=by
 obtain ⟨ag,cs,t0,t2,h1,h2,h3,h4,rfl⟩:=b8J hput hat
 obtain ⟨u0,hr,back⟩:=h.rowW h1
 obtain ⟨vs,hc,back'⟩:=hr.cs (by rintro rfl;simp at h2)
 refine back _ _ _ (fun i' k'' c x hne hr'=>hs.other (fun e=>hne e.1) hr') (back' _ _ _ _ _ _ (by simp) (hc.setW (fun x hx=>?_) fun k'' c x hk'' hr'=>hs.other (fun e=>hk'' e.2) hr'))
 obtain ⟨x',hx',hxr⟩:=hc.at h2
 rw [hx] at hx'
 obtain rfl:=Option.some.inj hx'
 exact hs.cell hxr h3 h4
theorem B6.store {E G V w w' g g' rows rows' i k q j k' t1 b off cap u m n f} (h:B6 E G V w g rows) (hput:C3 rows t1 (i::k::(q ++ [j,k']))=some rows') (hat:rowsAt rows (i::k::q)=some (.arr m n f))
  (hs:StG w w' g g' (i::k::q) j k' m off b cap u t1):B6 E G V w' g' rows':=by
 obtain ⟨ag,cs,t0,t2,h1,h2,h3,h4,rfl⟩:=b8J hput hat
 rcases h with rfl | ⟨row,bb,vs,e,rfl,hbg,hbw,hc⟩
 ·simp at h1
 ·cases i with
  | succ i=>simp at h1
  | zero =>
   simp at h1
   subst h1
   have hne:bb≠b:=fun e=>by
    have:=hs.only _ _ _ hbg e
    simp at this
   refine .inr ⟨(ag,cs.set k (.tr true t2)),bb,vs,e,rfl,(hs.else_ [] (by simp)).trans hbg,(hs.wrote.other _ hne).trans hbw,hc.setW (fun x hx=>?_) fun k'' c x hk'' hr'=>hs.other (fun e=>hk'' e.2) hr'⟩
   obtain ⟨x',hx',hxr⟩:=hc.at h2
   rw [hx] at hx'
   obtain rfl:=Option.some.inj hx'
   exact hs.cell hxr h3 h4
/-- A cell of the box itself is written. -/
theorem B6.store0 {E G V w w' g g' ag cs k c u b cap} (h:B6 E G V w g [(ag,cs)]) (hb:g []=some (⟨b,0,none⟩,cap)) (hk:k < cs.length) (hw:Wrote w w' b k u) (honly:∀ q ad c,g q=some (ad,c)→ad.block=b→q=[])
  (hg:∀ q,¬ [0,k] <+: q→g' q=g q) (hnew:l4 E G V w' (fun q=>g' (0::k::q)) c u):B6 E G V w' g' [(ag,cs.set k c)]:=by
 rcases h with h | ⟨row,bb,vs,e,hrow,hbg,hbw,hc⟩
 ·simp at h
 ·simp only [List.cons.injEq,and_true] at hrow
  subst hrow
  rw [hb] at hbg
  simp only [Option.some.injEq,Prod.mk.injEq,Addr.mk.injEq,and_true] at hbg
  obtain ⟨rfl,rfl⟩:=hbg
  refine .inr ⟨(ag,cs.set k c),b,_,e,rfl,(hg [] (by simp)).trans hb,hw.here _ _ hbw,by simpa using hc.1,fun k' c' hk'=>?_⟩
  simp only at hk'
  by_cases ek:k'=k
  ·subst ek
   rw [List.getElem?_set_self hk] at hk'
   obtain rfl:=Option.some.inj hk'
   have hlt:k' < vs.size:=by rw [hc.1];exact hk
   exact ⟨u,by simp [hlt],hnew⟩
  ·rw [List.getElem?_set_ne (fun x=>ek x.symm)] at hk'
   obtain ⟨x,hx,hr⟩:=hc.2 k' c' hk'
   refine ⟨x,by rw [Array.getElem?_setIfInBounds_ne (fun x=>ek x.symm)];exact hx,?_⟩
   have hsame:(fun q'=>g' (0::k'::q'))=fun q'=>g (0::k'::q'):=funext fun q'=>hg _ (by
    intro hp
    simp only [List.cons_prefix_cons] at hp
    exact ek hp.2.1.symm)
   show l4 E G V w' (fun q'=>g' (0::k'::q')) c' x
   rw [hsame]
   refine l4.ext hr fun q' ad c' hq=>hw.other _ fun e=>?_
   have:=honly _ _ _ hq e
   simp at this
/-- A root's content is told anew, in a world that was written where the root owns. -/
theorem Rel.rootW {E σ G G' w'} (h:Rel E σ a w G) (r:Nat) (hnp:notPark r) (rows:List Row) (q:Path) (hq:∀ p,¬ q <+: p→G' r p=G r p) (hqn:q≠[]) {b o u p ad c} (hw:Wrote w w' b o u) (hob:G r p=some (ad,c)) (hab:ad.block=b) (hi:a1M G') (hr:a3a E w G') (hG:∀ r',notPark r'→r'≠r→G' r'=G r')
  (hs:∀ t,r=slot t→RelRows E G σ.V w' (G' r) rows (a.tmps.getD t undef)) (hb:∀ t,r=box t→B6 E G σ.V w' (G' r) rows) (hx:∀ t,r=ext t→RelRows E G σ.V w' (G' r) rows (E.x t)) (hhas:σ.has r=true) :
  Rel E (σ.set r ⟨bump q (σ.get r).ver,rows⟩) a w' G'∧u7 G σ.V G' (σ.set r ⟨bump q (σ.get r).ver,rows⟩).V:=by
 have hg:u7 G σ.V G' (σ.set r ⟨bump q (σ.get r).ver,rows⟩).V:=by
  intro r' hr' p
  simp only [St.V,n9,hhas,and_true]
  by_cases e:r=r'
  ·subst e
   simp only [if_true]
   exact ⟨d4v _ _ _,fun hb=>hq p (d4w hb)⟩
  ·simp [e,hG r' hr' (fun x=>e x.symm)]
 have hget:∀ r',r'≠r→(σ.set r ⟨bump q (σ.get r).ver,rows⟩).get r'=σ.get r':=fun r' hne=>by
  rw [n9,if_neg fun x=>hne x.1.symm]
 have hself:(σ.set r ⟨bump q (σ.get r).ver,rows⟩).get r=⟨bump q (σ.get r).ver,rows⟩:=by rw [n9,if_pos ⟨rfl,hhas⟩]
 have hne:∀ r',r'≠r→∀ q ad' c',G r' q=some (ad',c')→w'.heap[ad'.block]?=w.heap[ad'.block]?:=fun r' hr' q ad' c' hq=>hw.other _ fun e=>hr' (h.inj _ _ _ _ _ _ _ _ hq hob (e.trans hab.symm)).1
 refine ⟨{ nd:=by rw [E1];exact h.nd,inj:=hi,rng:=fun r p ad c hg=>by rw [hw.size];exact hr r p ad c hg,os:=hw.os.trans h.os,tape:=hw.tape.trans h.tape,output:=hw.output.trans h.output,size:=by rw [hw.size];exact h.size,kept:=fun b' hb'=>(hw.other _ fun e=>?_).trans (h.kept b' hb'),slots:=fun t=>?_,boxes:=fun t=>?_,exts:=fun t=>?_,xbox:=fun t ht=>?_,defers:=h.defers,tm:=h.tm,here:=fun t ht=>h.here t (by rw [R5] at *;rwa [E1] at ht) },hg⟩
 ·have:=(h.rng _ _ _ _ hob).1
  rw [hab,← e] at this
  rcases this with h1 | h1
  ·have:=hb'.1;omega
  ·exact hb'.2 h1
 ·by_cases e:slot t=r
  ·rw [e,hself]
   exact (hs t e.symm).good hg
  ·rw [hget _ e,hG _ (a8e t) e]
   exact ((h.slots t).ext (hne _ e)).good hg
 ·by_cases e:box t=r
  ·rw [e,hself]
   exact (hb t e.symm).good hg
  ·rw [hget _ e,hG _ (J1 t) e]
   refine B6.good hg ?_
   rcases h.box' t with h0 | ⟨row,b',cs,e',h1,h2,h3,h4⟩
   ·exact .inl h0
   ·exact .inr ⟨row,b',cs,e',h1,h2,(hne _ e _ _ _ h2).trans h3,h4.ext fun k p ad c hp=>hne _ e _ _ _ hp⟩
 ·by_cases e:ext t=r
  ·rw [e,hself]
   exact (hx t e.symm).good hg
  ·rw [hget _ e,hG _ (b1C t) e]
   exact ((h.exts t).ext (hne _ e)).good hg
 ·by_cases e:box t=r
  ·rw [e,hq _ (by simpa using hqn),← e]
   exact h.xbox t ht
  ·rw [hG _ (J1 t) e]
   exact h.xbox t ht
theorem d8W {j k u} {m n:Nat} {f:Nat→Nat→T}:(q:Path)→{t t':T}→t.at q=some (.arr m n f)→t.put (q ++ [j,k]) u=some t'→j < n∧k < m
 | [],t,t',hat,hput=>by
  have:t=.arr m n f:=by
   have h2:T.at t []=some t:=by cases t <;> rfl
   exact Option.some.inj (h2.symm.trans hat)
  subst this
  simp only [List.nil_append,T.put] at hput
  cases hlt:(Nat.blt j n&&Nat.blt k m) with
  | false=>simp [hlt] at hput
  | true=>simpa only [Bool.and_eq_true,Nat.blt_eq] using hlt
 | [x],t,t',hat,_=>by cases t <;> simp [T.at] at hat
 | j1::k1::q,t,t',hat,hput=>by
  cases t with
  | arr m1 n1 f1 =>
   simp only [List.cons_append,T.put] at hput
   simp only [T.at] at hat
   cases hlt:(Nat.blt j1 n1&&Nat.blt k1 m1) with
   | false=>simp [hlt] at hput
   | true =>
    simp only [hlt,cond_true] at hput hat
    cases hp:(f1 j1 k1).put (q ++ [j,k]) u with
    | none=>simp [hp] at hput
    | some t2=>exact d8W q hat hp
  | _=>simp [T.at] at hat
theorem b6H {E G V g c t v} (h:l4 E G V w g c v) (ho:b1x c=some t):RelOwn w t g v:=by
 unfold b1x at ho
 split at ho
 ·obtain rfl:=Option.some.inj ho;exact h
 ·simp at ho
 ·simp at ho
 ·rename_i t' hne hne'
  obtain rfl:=Option.some.inj ho
  cases t' with
  | arr m n f=>exact absurd rfl (hne m n f)
  | lent m n=>exact absurd rfl (hne' m n)
  | _=>exact h
 ·simp at ho
theorem c3X {b o:Nat} {v x:Value} (hv:v.oneCell'=true) {cs:Array Value} {e} (hb:w.heap[b]?=some (.cells cs e (0,0))) (hx:cs[o]?=some x):(store ⟨b,o,none⟩ v).run P w=.ok () (w.setCell ⟨b,o,none⟩ v):=by
 rw [run_store P w _ v _ hv,O9 hb,hx]
 simp [frozen_of_row w b o cs e hb]
theorem d8X {p:Path} {j k:Nat} {c:C} {rows:List Row} (h:d6W p j k c rows=true):b1f p j k c rows=some (c9N p j k c rows):=by
 cases p with
 | nil =>
  simp only [d6W] at h
  simp only [b1f,c9N]
  split at h
  ·rename_i g old hj
   simp only [h,cond_true]
  ·cases h
 | cons y p =>
  simp only [d6W] at h
  simp only [b1f,c9N]
  split at h
  ·rename_i t ht
   exact (a7r h).2 t
  ·cases h
theorem e3I {y:Nat} {p:Path} {m:Nat} {rows:List Row} (h:mOk (y::p) m rows=true):∃ n f,rowsAt rows (y::p)=some (.arr m n f):=by
 simp only [mOk,Bool.and_eq_true] at h
 obtain ⟨h1,h2,h3⟩:=h
 refine ⟨(E9 rows (y::p)).ln,(E9 rows (y::p)).fn,?_⟩
 rw [(a7r h1).1,j8 h3]
 congr 1
 exact d0c h2
theorem b7u {E:Env} (x:Nat) {r:Nat} {p:Path} {m j b off cap o:Nat} (hnp:notPark r) (hbox:p=[]→r % 4=1):∀ (l:List C) (vs:List Value) (ver k i:Nat) (σ:St) (G:GG) (w:World),Rel E σ a w G→vs.length=l.length →
  (∀ (i':Nat) c,l[i']?=some c→∃ u,vs[i']?=some u∧l4 E G σ.V w (fun q=>G (park x) (0::(i+i')::q)) c u)→G r p=some (⟨b,off,none⟩,cap)→o+i=off+(j*m+k)→∀ {L σ' L'},
  (b1g r p m j ver k l).run φ σ L=some ((),σ',L')→∃ w' G',(storeCells ⟨b,o,none⟩ vs i).run P w=.ok () w'∧Rel E σ' a w' G'
 | [],vs,ver,k,i,σ,G,w,h,hl,_,_,_,L,σ',L',hrun=>by
  have:=g7 (φ:=φ) hrun
  simp only [Prod.mk.injEq] at this
  obtain ⟨_,rfl,rfl⟩:=this
  have:vs=[]:=List.eq_nil_of_length_eq_zero hl
  subst this
  exact ⟨w,G,rfl,h⟩
 | c::l,vs,ver,k,i,σ,G,w,h,hl,hp,hg,ho,L,σ',L',hrun=>by
  match vs,hl,hp with
  | v::vs,hl,hp =>
  obtain ⟨u,hu,hr⟩:=hp 0 c rfl
  simp only [List.getElem?_cons_zero,Option.some.injEq] at hu
  subst hu
  simp only [b1g,O6] at hrun
  replace hrun:=j9 hrun
  obtain ⟨hb,hrun2⟩:=hrun
  simp only [Bool.and_eq_true,Nat.blt_eq] at hb
  obtain ⟨⟨hver,hkm,hmok⟩,hpb⟩:=hb
  have hput:=d8X hpb
  generalize c9N p j k c (σ.get r).rows=rows' at hput hrun2
  obtain ⟨hhas,hrun3⟩:=a4I hrun2
  have hpar:∀ q ad c',G (park x) q=some (ad,c')→ad.block≠b:=fun q ad c' hq e=>l5 hnp x (h.inj _ _ _ _ _ _ _ _ hg hq e.symm).1
  have honly:∀ q ad c',G r q=some (ad,c')→ad.block=b→q=p:=fun q ad c' hq e=>(h.inj _ _ _ _ _ _ _ _ hq hg e).2
  -- the single step
  have step:∃ x0 cs0 e0,w.heap[b]?=some (.cells cs0 e0 (0,0))∧cs0[off+(j*m+k)]?=some x0 ∧
    (Rel E (σ.set r ⟨bump (p ++ [j,k]) (σ.get r).ver,rows'⟩) a (w.setCell ⟨b,off+(j*m+k),none⟩ v) (tkG G (park x) [0,i] r (p ++ [j,k]))∧u7 G σ.V (tkG G (park x) [0,i] r (p ++ [j,k])) (σ.set r ⟨bump (p ++ [j,k]) (σ.get r).ver,rows'⟩).V):=by
   have hW:=b0x w b (off+(j*m+k)) v
   have hGi:a1M (tkG G (park x) [0,i] r (p ++ [j,k])):=d4x h.inj _ _ _ _
   have hGr:a3a E w (tkG G (park x) [0,i] r (p ++ [j,k])):=d4y h.rng _ _ _ _
   have hGo:∀ r',notPark r'→r'≠r→tkG G (park x) [0,i] r (p ++ [j,k]) r'=G r':=fun r' h1 h2=>funext fun q=>a8f (fun e=>h2 e.1) (fun e=>l5 h1 x e.1)
   have hGin:∀ q,¬ (p ++ [j,k]) <+: q→tkG G (park x) [0,i] r (p ++ [j,k]) r q=G r q:=fun q hq=>a8f (fun e=>hq e.2) (fun e=>l5 hnp x e.1)
   have hnewg:(fun q=>tkG G (park x) [0,i] r (p ++ [j,k]) r (p ++ j::k::q))=fun q=>G (park x) (0::(i+0)::q):=by
    funext q
    have:=d8S G (park x) [0,i] r (p ++ [j,k]) q
    simpa using this
   have hr1:l4 E G σ.V (w.setCell ⟨b,off+(j*m+k),none⟩ v) (fun q=>G (park x) (0::(i+0)::q)) c v:=hr.ext fun q ad c' hq=>hW.other _ (hpar _ _ _ hq)
   cases hpe:p with
   | nil =>
    subst hpe
    obtain ⟨t,rfl | rfl | rfl⟩:=a3b hnp
    ·have:=hbox rfl;unfold slot at this;omega
    rotate_left
    ·have:=hbox rfl;unfold ext at this;omega
    rcases h.box' t with h0 | ⟨row,b',cs,e',hrows,hg',hw,hc⟩
    ·simp [b1f,h0] at hput
    ·rw [hg] at hg'
     simp only [Option.some.injEq,Prod.mk.injEq,Addr.mk.injEq,and_true] at hg'
     obtain ⟨⟨rfl,rfl⟩,rfl⟩:=hg'
     have hput0:=hput
     simp only [b1f,hrows] at hput
     cases j with
     | succ j=>simp at hput
     | zero =>
      obtain ⟨ag,old⟩:=row
      simp only [List.getElem?_cons_zero] at hput
      cases hlt:Nat.blt k old.length with
      | false=>simp [hlt] at hput
      | true =>
       simp only [hlt,cond_true,Option.some.injEq,List.set_cons_zero] at hput
       subst hput
       simp only [Nat.blt_eq] at hlt
       have hk2:0+(0*m+k)=k:=by omega
       rw [hk2] at hW hr1 ⊢
       have hsz:k < cs.size:=by rw [hc.1];exact hlt
       refine ⟨cs[k],cs,e',hw,Array.getElem?_eq_getElem hsz,h.rootW (box t) hnp _ ([] ++ [0,k]) hGin (by simp) hW hg rfl hGi hGr hGo (fun t' e=>absurd e.symm (A3 t' t)) (fun t' e=>?_) (fun t' e=>absurd e (K2 t t')) hhas⟩
       have hbx:B6 E G σ.V w (G (box t)) [(ag,old)]:=by rw [← hrows];exact h.box' t
       refine B6.store0 hbx hg hlt hW honly (fun q hq=>hGin q hq) ?_
       have:(fun q=>tkG G (park x) [0,i] (box t) ([] ++ [0,k]) (box t) (0::k::q))=fun q=>G (park x) (0::(i+0)::q):=hnewg
       rw [this]
       exact hr1
   | cons y p' =>
    have hmok':=hmok
    rw [hpe] at hmok'
    obtain ⟨n',f,hat⟩:=e3I hmok'
    have hput':=hput
    simp only [b1f,hpe] at hput'
    split at hput'
    case h_2=>simp at hput'
    rename_i t ht
    obtain ⟨i1,k1,q1,ag,cs,t0,e1,h1,h2,h3⟩:=W0 hat
    rw [e1] at hput' hat
    have hput2:C3 (σ.get r).rows t (i1::k1::(q1 ++ [j,k]))=some rows':=by simpa using hput'
    obtain ⟨ag',cs',t0',t2,h1',h2',h3',h4',_⟩:=b8J hput2 hat
    obtain ⟨hjn,_⟩:=d8W q1 h4' h3'
    obtain ⟨b',off',cap',cs0,e0,hg',_,hw,_,hh⟩:=h.nested hnp hat (by omega)
    have hpe':p=i1::k1::q1:=hpe.trans e1
    rw [← hpe',hg] at hg'
    simp only [Option.some.injEq,Prod.mk.injEq,Addr.mk.injEq,and_true] at hg'
    obtain ⟨⟨rfl,rfl⟩,rfl⟩:=hg'
    obtain ⟨x0,hx0,_⟩:=hh j hjn k hkm
    refine ⟨x0,cs0,e0,hw,hx0,?_⟩
    rw [← hpe]
    have hst:StG w (w.setCell ⟨b,off+(j*m+k),none⟩ v) (G r) (tkG G (park x) [0,i] r (p ++ [j,k]) r) (i1::k1::q1) j k m off b cap v t :=
     ⟨by rw [← hpe'];exact hg,hW,by rw [← hpe'];exact honly,by rw [← hpe'];exact hGin,by
      rw [← hpe',hnewg]
      exact b6H hr1 ht⟩
    refine h.rootW r hnp rows' (p ++ [j,k]) hGin (by simp) hW hg rfl hGi hGr hGo (fun t' e=>?_) (fun t' e=>?_) (fun t' e=>?_) hhas
    ·subst e
     exact (h.slots t').store hput2 hat hst
    ·subst e
     exact (h.box' t').store hput2 hat hst
    ·subst e
     exact (h.exts t').store hput2 hat hst
  obtain ⟨x0,cs0,e0,hw0,hx0,hR,hGood⟩:=step
  have hg1:tkG G (park x) [0,i] r (p ++ [j,k]) r p=some (⟨b,off,none⟩,cap):=by
   rw [a8f (fun e=>?_) (fun e=>l5 hnp x e.1)]
   ·exact hg
   ·have:=e.2.length_le
    simp at this
    omega
  obtain ⟨w',G',h1,h2⟩:=b7u (o:=o) x hnp hbox l vs ver (k+1) (i+1) _ _ _ hR (by simpa using hl) (fun i' c' hi'=>by
   obtain ⟨u',hu',hr'⟩:=hp (i'+1) c' (by simpa using hi')
   refine ⟨u',by simpa using hu',?_⟩
   have hsame:(fun q=>tkG G (park x) [0,i] r (p ++ [j,k]) (park x) (0::(i+1+i')::q))=fun q=>G (park x) (0::(i+(i'+1))::q):=by
    funext q
    have e:i+1+i'=i+(i'+1):=by omega
    rw [e]
    refine a8f (fun e=>l5 hnp x e.1.symm) (fun e=>?_)
    have:=e.2
    simp only [List.cons_prefix_cons] at this
    omega
   rw [hsame]
   exact (hr'.ext fun q ad c'' hq=>(b0x w b (off+(j*m+k)) v).other _ (hpar _ _ _ hq)).good hGood) hg1 (by omega) hrun3
  refine ⟨w',G',?_,h2⟩
  have hadd:(⟨b,o,none⟩:Addr).add i=⟨b,off+(j*m+k),none⟩:=by rw [Y7,ho]
  simp only [storeCells,Sem.run_bind,hadd,c3X hr.one hw0 hx0,Result.andThen_ok,h1]
theorem e3J {dst t x y ty pos after guard}:O7 P φ ⟨dst,.store t x y,ty,pos,after,guard⟩ (opP P ⟨dst,.store t x y,ty,pos,after,guard⟩):=by
 intro E σ a w L σ' L' ⟨G,hG,hp⟩ hrun K Q hK
 obtain ⟨c,σ1,L1,h1,h2⟩:=run_bind hrun
 obtain ⟨rfl,hrel⟩:=o7 hG h1
 split at h2
 case h_2=>exact (i5 h2).elim
 rename_i pt
 obtain ⟨row,σ2,L2,h3,h4⟩:=run_bind h2
 obtain ⟨G1,hG1,hrow,hgood,_⟩:=b3C hG (e3A φ pt) 0 (hp 0) h3
 obtain ⟨hb,h5⟩:=j9 h4
 simp only [Bool.and_eq_true,Bool.not_eq_true'] at hb
 have hlen:=j8 hb.1
 have hsz:m7 P t≠0:=fun e=>by rw [e] at hb;simp [E5] at hb
 obtain ⟨inf,hi,his⟩:=a3N hsz
 have hne:row.2≠[]:=fun e=>by rw [e] at hlen;exact hsz hlen.symm
 have hcs:=hrow.cells hne
 obtain ⟨u,σ3,L3,h6,h7⟩:=run_bind h5
 have hptr:=R1.good hgood hrel
 cases pt with
 | pim m g=>exact (i5 (φ:=φ) (α:=Unit) h6).elim
 | ptr r ver p m j k =>
  obtain ⟨b,o,hv,⟨hnp,hbox⟩,hle,hval⟩:=hptr
  have hver:σ2.V r p=ver:=by
   cases hl:row.2 with
   | nil=>exact absurd hl hne
   | cons c l =>
    have h6':(b1g r p m j ver k (c::l)).run φ σ2 L2=some (u,σ3,L3):=by rw [← hl];exact h6
    simp only [b1g,O6] at h6'
    obtain ⟨hb',_⟩:=j9 h6'
    simp only [Bool.and_eq_true] at hb'
    exact j8 hb'.1.1
  obtain ⟨off,cap,hg,ho⟩:=hval hver
  obtain ⟨w',G',hs,hR⟩:=b7u (P:=P) (φ:=φ) 0 hnp hbox row.2 (a.eval y).cells.toList ver k 0 σ2 G1 w hG1 (by rw [← hcs.1];simp) (fun i' c hi'=>by
   obtain ⟨u',hu',hr'⟩:=hcs.2 i' c hi'
   exact ⟨u',by simpa using hu',by rw [Nat.zero_add];exact hr'⟩) hg (by simpa using ho) h6
  refine d7d (w':=w') ?_ (hK _ _ ?_)
  ·have hsz2:¬ (a.eval y).cells.size≠inf.size:=by rw [hcs.1,hlen,his];simp
   simp only [ne_eq,Decidable.not_not] at hsz2
   simp [execOp,Instr.storeAt,hv,Instr.sureAddr,storeVar,O8 hi,hsz2,hs]
  ·have hS:=hR.toS
   obtain ⟨G2,hG2,hp2⟩:=hS
   exact D5 hG2 0 (rows:=[(false,[])]) (show i7 E G2 σ3.V w' (fun k q=>G2 (park 0) (0::k::q)) (false,[]) undef from rfl) h7
end
end Go.Mach
namespace Go.Mach
section
variable {P:Program} {φ:Sems} {a:Act} {w:World}
/-- What is in flight is told anew, at park 0. -/
def b0y (G:GG) (γ:Gh):GG:=fun r=>if r % 4=3 then (if r=park 0 then γ else noG) else G r
theorem d4B {G γ r} (h:notPark r):b0y G γ r=G r:=by unfold b0y;rw [if_neg h]
theorem d0h {G γ}:b0y G γ (park 0)=γ:=by simp [b0y,park]
theorem b8K {G γ r p y} (h:b0y G γ r p=some y):(r=park 0∧γ p=some y)∨(notPark r∧G r p=some y):=by
 unfold b0y at h
 split at h
 ·split at h
  ·exact .inl ⟨‹_›,h⟩
  ·simp [noG] at h
 ·exact .inr ⟨‹_›,h⟩
theorem Rel.refly {E σ G} (h:Rel E σ a w G) (γ:Gh)
  (h1:∀ p ad c,γ p=some (ad,c)→(∃ z p' c',G (park z) p'=some (ad,c'))∨(E.w0.heap.size≤ad.block∧ad.block < w.heap.size∧∀ r p' ad' c',notPark r→G r p'=some (ad',c')→ad'.block≠ad.block))
  (h2:∀ p p' ad c ad' c',γ p=some (ad,c)→γ p'=some (ad',c')→ad.block=ad'.block→p=p'):Rel E σ a w (b0y G γ):=by
 refine h.parks _ (fun r hr=>d4B hr) ?_ ?_
 ·intro r p r' p' ad c ad' c' g1 g2 hb
  rcases b8K g1 with ⟨e1,y1⟩ | ⟨n1,y1⟩ <;> rcases b8K g2 with ⟨e2,y2⟩ | ⟨n2,y2⟩
  ·exact ⟨e1.trans e2.symm,h2 _ _ _ _ _ _ y1 y2 hb⟩
  ·rcases h1 _ _ _ y1 with ⟨z,p1,c1,g⟩ | ⟨_,_,hf⟩
   ·exact absurd ((h.inj _ _ _ _ _ _ _ _ g y2 hb).1 ▸ n2) (S1 z)
   ·exact absurd hb.symm (hf _ _ _ _ n2 y2)
  ·rcases h1 _ _ _ y2 with ⟨z,p1,c1,g⟩ | ⟨_,_,hf⟩
   ·exact absurd ((h.inj _ _ _ _ _ _ _ _ g y1 hb.symm).1 ▸ n1) (S1 z)
   ·exact absurd hb (hf _ _ _ _ n1 y1)
  ·exact h.inj _ _ _ _ _ _ _ _ y1 y2 hb
 ·intro r p ad c g1
  rcases b8K g1 with ⟨e1,y1⟩ | ⟨n1,y1⟩
  ·rcases h1 _ _ _ y1 with ⟨z,p1,c1,g⟩ | ⟨ha,hb,_⟩
   ·exact h.rng _ _ _ _ g
   ·exact ⟨.inl ha,hb⟩
  ·exact h.rng _ _ _ _ y1
theorem b6I (G:GG) (V:Nat→Ver) (γ:Gh):u7 G V (b0y G γ) V:=fun r hr p=>⟨Nat.le_refl _,fun _=>by rw [d4B hr]⟩
/-- The ghost of an array in flight: its block, and what lies in it. -/
def b8L (b off cap:Nat) (S:Path→Option (Addr × Nat)):Gh
 | [0,0]=>some (⟨b,off,none⟩,cap)
 | 0::0::j::k::q=>S (j::k::q)
 | _=>none
theorem a6h {b off cap S p y} (h:b8L b off cap S p=some y):(p=[0,0]∧y=(⟨b,off,none⟩,cap))∨∃ j k q,p=0::0::j::k::q∧S (j::k::q)=some y:=by
 unfold b8L at h
 split at h
 ·exact .inl ⟨rfl,(Option.some.inj h).symm⟩
 ·rename_i j k q
  exact .inr ⟨j,k,q,rfl,h⟩
 ·simp at h
/-- An array of a new block is in flight. -/
theorem Rel.newArr {E σ G} (h:Rel E σ a w G) {cs:Array Value} {e:TypeId} {m n cap:Nat} {f:Nat→Nat→T} (S:Path→Option (Addr × Nat)) (hm:0 < m) (hsz:cap*m≤cs.size) (hn:n≤cap)
  (h1:∀ j k q ad c,S (j::k::q)=some (ad,c)→∃ z p' c',G (park z) p'=some (ad,c'))
  (h2:∀ j k q j' k' q' ad c ad' c',S (j::k::q)=some (ad,c)→S (j'::k'::q')=some (ad',c')→ad.block=ad'.block→j=j'∧k=k'∧q=q')
  (hc:∀ j,j < n→∀ k,k < m→∃ u,cs[j*m+k]?=some u∧RelOwn w (f j k) (fun q=>S (j::k::q)) u) :
  Rel E σ a (w.alloc (.cells cs e)) (b0y G (b8L w.heap.size 0 cap S))∧RelOwn (w.alloc (.cells cs e)) (.arr m n f) (fun q=>b0y G (b8L w.heap.size 0 cap S) (park 0) (0::0::q)) (.slice (some ⟨w.heap.size,0,none⟩) n cap):=by
 have hlt:∀ r p ad c,G r p=some (ad,c)→ad.block < w.heap.size:=fun r p ad c hg=>(h.rng _ _ _ _ hg).2
 have hg:=h.grew (b0V w (.cells cs e))
 refine ⟨hg.refly _ ?_ ?_,?_⟩
 ·intro p ad c hp
  rcases a6h hp with ⟨_,y⟩ | ⟨j,k,q,_,y⟩
  ·cases y
   refine .inr ⟨h.size,by simp,fun r p' ad' c' _ hg' e=>?_⟩
   have:=hlt _ _ _ _ hg'
   simp at e
   omega
  ·exact .inl (h1 _ _ _ _ _ y)
 ·intro p p' ad c ad' c' hp hp' hb
  rcases a6h hp with ⟨e1,y⟩ | ⟨j,k,q,e1,y⟩ <;> rcases a6h hp' with ⟨e2,y'⟩ | ⟨j',k',q',e2,y'⟩
  ·rw [e1,e2]
  ·cases y
   obtain ⟨z,p1,c1,g⟩:=h1 _ _ _ _ _ y'
   have:=hlt _ _ _ _ g
   simp at hb
   omega
  ·cases y'
   obtain ⟨z,p1,c1,g⟩:=h1 _ _ _ _ _ y
   have:=hlt _ _ _ _ g
   simp at hb
   omega
  ·obtain ⟨rfl,rfl,rfl⟩:=h2 _ _ _ _ _ _ _ _ _ _ y y' hb
   rw [e1,e2]
 ·rw [d0h]
  refine .inr ⟨w.heap.size,0,cap,cs,e,rfl,rfl,⟨hn,hm⟩,heap_alloc_new w _,by omega,fun j hj k hk=>?_⟩
  obtain ⟨u,hu,hr⟩:=hc j hj k hk
  refine ⟨u,by rw [Nat.zero_add];exact hu,?_⟩
  have:(fun q=>b8L w.heap.size 0 cap S (0::0::j::k::q))=fun q=>S (j::k::q):=rfl
  rw [this]
  refine hr.ext fun q ad c hq=>?_
  obtain ⟨z,p1,c1,g⟩:=h1 _ _ _ _ _ hq
  exact (b0V w _).old _ (hlt _ _ _ _ g)
theorem a7t {E σ G} (h:Rel E σ a w G) {t v dst L σ' L' u} (hr:RelOwn w t (fun q=>G (park 0) (0::0::q)) v) (hrun:(a1J dst t).run φ σ L=some (u,σ',L')):S E σ' (a.put dst v) w :=
 D5 h 0 (rows:=[(false,[.tr true t])]) hr hrun
theorem d4C {i:Int} (h0:0≤i) (h1:i < 9223372036854775808):IntKind.i64.wrap i=i:=by
 unfold IntKind.wrap
 simp only [IntKind.bits,IntKind.signed]
 have:i % 18446744073709551616=i:=Int.emod_eq_of_lt h0 (by omega)
 simp
 omega
theorem b4x {e:TypeId} (h:a2Z P e=true):∃ z i,P.info? e=some i∧i.size=m7 P e∧m7 P e≠0∧i.bytes=bytesOf P e∧i.zero=some z∧z.cells.size=m7 P e∧(∀ k,k < m7 P e→∀ j,∃ u,z.cells[k]?=some u∧RelOwn w (N9 P e j k) noG u):=by
 unfold a2Z at h
 simp only [Bool.and_eq_true,Bool.not_eq_true'] at h
 obtain ⟨⟨h1,h2⟩,h3⟩:=h
 have hl:=j8 h1
 have hs:m7 P e≠0:=fun e=>by rw [e] at h2;simp [E5] at h2
 have hne:(o8 P e).2≠[]:=fun e=>by rw [e] at hl;exact hs hl.symm
 obtain ⟨i,hi,his⟩:=a3N hs
 have hz:∃ z,i.zero=some z∧∀ E G V,i7 E G V w (fun _=>noG) (o8 P e) z:=by
  have hne':=hne
  unfold o8 at hne' ⊢
  simp only [hi] at hne' ⊢
  cases hz:i.zero with
  | none=>simp [hz] at hne'
  | some v =>
   simp only [hz] at hne' ⊢
   cases hv:ofValue v with
   | none=>simp [hv] at hne'
   | some r=>exact ⟨v,rfl,fun E G V=>b0U (b4v hv)⟩
 obtain ⟨z,hz,hv⟩:=hz
 have hrel:=(hv ⟨w,fun _=>False,0,fun _=>undef,fun _=>none⟩ (fun _=>noG) fun _=>z0).cells hne
 refine ⟨z,i,hi,his,hs,by simp [bytesOf,hi],hz,by rw [hrel.1,hl],fun k hk j=>?_⟩
 have hk':k < (o8 P e).2.length:=by omega
 obtain ⟨u,hu,hr⟩:=hrel.2 k _ (List.getElem?_eq_getElem hk')
 refine ⟨u,hu,?_⟩
 have hall:=List.all_eq_true.1 h3 _ (List.getElem_mem hk')
 have hgt:(o8 P e).2[k]?=some (o8 P e).2[k]:=List.getElem?_eq_getElem hk'
 unfold N9
 rw [hgt]
 generalize (o8 P e).2[k]=c at hr hall ⊢
 cases c with
 | tr o t=>cases o with
  | true=>exact hr
  | false=>simp at hall
 | _=>simp at hall
theorem d8Y (zc:Array Value) (m n:Nat) (hm:zc.size=m) (hm0:m≠0) {j k:Nat} (hk:k < m) (hj:j < n):((Array.range (n*m)).map (fun i=>zc[i % zc.size]!))[j*m+k]?=zc[k]?:=by
 have hlt:j*m+k < n*m:=by
  have:(j+1)*m≤n*m:=Nat.mul_le_mul_right m hj
  rw [Nat.add_mul] at this
  omega
 have hmod:(j*m+k) % m=k:=by rw [Nat.mul_comm,Nat.mul_add_mod,Nat.mod_eq_of_lt hk]
 simp only [Array.getElem?_map,Array.getElem?_range,hlt,if_true,Option.map_some,hm,hmod]
 have hk':k < zc.size:=by omega
 simp [hk']
theorem d0i {dst t l c ty pos after guard}:O7 P φ ⟨dst,.makeSlice t l c,ty,pos,after,guard⟩ (opP P ⟨dst,.makeSlice t l c,ty,pos,after,guard⟩):=by
 intro E σ a w L σ' L' ⟨G,hG,hp⟩ hrun K Q hK
 obtain ⟨cl,σ1,L1,h1,h2⟩:=run_bind hrun
 obtain ⟨rfl,hl⟩:=o7 hG h1
 obtain ⟨cc,σ1,L1,h3,h4⟩:=run_bind h2
 obtain ⟨rfl,hc⟩:=o7 hG h3
 split at h4
 case h_2=>exact (i5 h4).elim
 rename_i l' c' e hl' hc' he
 obtain ⟨o1,rfl⟩:=b3D hl'
 obtain ⟨o2,rfl⟩:=b3D hc'
 have hvl:=a2c hl
 have hvc:=a2c hc
 have hu:=a2j he
 obtain ⟨hb,h5⟩:=j9 h4
 simp only [Bool.and_eq_true,decide_eq_true_eq] at hb
 obtain ⟨hb0,hb1,hb2,hb3⟩:=hb
 have hb2:=Nat.le_of_ble_eq_true hb2
 have hb3:=Nat.le_of_ble_eq_true hb3
 unfold lim at hb2 hb3
 cases hz:a2Z P e with
 | false=>rw [hz] at h5;exact (i5 (φ:=φ) h5).elim
 | true =>
  rw [hz] at h5
  obtain ⟨z,i,hi,his,hs0,hby,hzv,hzs,hzc⟩:=b4x (P:=P) (w:=w) hz
  have hwl:IntKind.i64.wrap l'=l':=d4C hb0 (by omega)
  have hwc:IntKind.i64.wrap c'=c':=d4C (by omega) (by omega)
  have hbig:¬ ((281474976710656:Int) < (i.bytes:Int)*c'):=by
   have:(c'.toNat:Int)=c':=by omega
   rw [hby]
   have h7:((c'.toNat*bytesOf P e:Nat):Int)≤70368744177664:=by omega
   rw [Int.natCast_mul,this,Int.mul_comm] at h7
   omega
  have hnew:=hG.newArr (e:=e) (cs:=(Array.range (c'.toNat*m7 P e)).map (fun i=>z.cells[i % z.cells.size]!)) (m:=m7 P e) (n:=l'.toNat) (cap:=c'.toNat) (f:=l3 0 l'.toNat (N9 P e)) (fun _=>none) (by omega) (by simp) (by omega) (fun _ _ _ _ _ h=>by simp at h) (fun _ _ _ _ _ _ _ _ _ _ h=>by simp at h) (fun j hj k hk=>by
   obtain ⟨u,hu',hr⟩:=hzc k hk (0+j)
   rw [b1h k hj]
   exact ⟨u,by rw [d8Y z.cells (m7 P e) c'.toNat hzs hs0 hk (by omega)];exact hu',hr⟩)
  refine m4 (v:=.slice (some ⟨w.heap.size,0,none⟩) l'.toNat c'.toNat) (w':=w.alloc (.cells ((Array.range (c'.toNat*m7 P e)).map (fun i=>z.cells[i % z.cells.size]!)) e)) ?_ (hK _ _ (a7t hnew.1 hnew.2 h5))
  have hc0:0≤c':=by omega
  have hnc:¬ c' < 0:=by omega
  have hnl:¬ l' < 0:=by omega
  have hnlc:¬ l' > c':=by omega
  have hti:(typeInfo e).run P w=.ok i w:=by simp [typeInfo,hi]
  by_cases hn0:c'.toNat*m7 P e=0
  ·have hn0':c'.toNat*i.size=0:=by rw [his];exact hn0
   simp [execOp,Instr.makeSlice,l6 hu,hvl,hvc,asInt,asIntOf,hti,hwl,hwc,hbig,hnc,hnl,hnlc,O8 hi,hn0',newRow,hn0,show Array.range 0=#[] from rfl]
  ·have hn0':¬ c'.toNat*i.size=0:=by rw [his];exact hn0
   have hzr:(zeroValue e).run P w=.ok z w:=by simp [zeroValue,typeInfo,hi,hzv]
   simp [execOp,Instr.makeSlice,l6 hu,hvl,hvc,asInt,asIntOf,hti,hwl,hwc,hbig,hnc,hnl,hnlc,O8 hi,hn0,newRow,hzr,his]
theorem Q4 (w:World) (o:Obj):Grew w (w.drew.alloc o):=⟨rfl,rfl,rfl,by simp,fun b hb=>Go.RowKit.Below.heap_alloc w.drew o b hb⟩
theorem b3E {m n i:Nat} (hm:0 < m) (hi:i < n*m):i / m < n∧i % m < m∧i / m*m+i % m=i:=by
 refine ⟨?_,Nat.mod_lt _ hm,?_⟩
 ·rw [Nat.div_lt_iff_lt_mul hm];exact hi
 ·rw [Nat.mul_comm];exact Nat.div_add_mod i m
theorem a4J {m n j k:Nat} (hj:j < n) (hk:k < m):j*m+k < n*m:=by
 have:(j+1)*m≤n*m:=Nat.mul_le_mul_right m hj
 rw [Nat.add_mul] at this
 omega
/-- What lies in an appended array. -/
def a8g (G:GG) (n:Nat) (S2:Path→Option (Addr × Nat)):Path→Option (Addr × Nat)
 | j::k::q=>if j < n then G (park 0) (0::0::j::k::q) else S2 ((j - n)::k::q)
 | _=>none
/-- The appended array, wherever its block lies: its cells are told one by one. -/
theorem d0j {E σ G w1} (h:Rel E σ a w G) (hw:Rel E σ a w1 G) {m n n' cap b off:Nat} {f f':Nat→Nat→T} {S2:Path→Option (Addr × Nat)} {cs:Array Value} {e:TypeId}
  (hS1:∀ j k q ad c,S2 (j::k::q)=some (ad,c)→∃ p' c',G (park 1) p'=some (ad,c'))
  (hS2:∀ j k q j' k' q' ad c ad' c',S2 (j::k::q)=some (ad,c)→S2 (j'::k'::q')=some (ad',c')→ad.block=ad'.block→j=j'∧k=k'∧q=q')
  (hb:w1.heap[b]?=some (.cells cs e (0,0))) (hm:0 < m) (hn:n+n'≤cap) (hsz:off+cap*m≤cs.size)
  (hfr:(∃ c',G (park 0) [0,0]=some (⟨b,off,none⟩,c'))∨(w.heap.size≤b∧b < w1.heap.size))
  (hold:∀ j,j < n→∀ k,k < m→∃ u,cs[off+(j*m+k)]?=some u∧RelOwn w (f j k) (fun q=>G (park 0) (0::0::j::k::q)) u)
  (hnew:∀ j,j < n'→∀ k,k < m→∃ u,cs[off+((n+j)*m+k)]?=some u∧RelOwn w (f' j k) (fun q=>S2 (j::k::q)) u)
  (hkeep:∀ b',b' < w.heap.size→b'≠b→w1.heap[b']?=w.heap[b']?) :
  Rel E σ a w1 (b0y G (b8L b off cap (a8g G n S2)))∧RelOwn w1 (d6X m n f n' f') (fun q=>b0y G (b8L b off cap (a8g G n S2)) (park 0) (0::0::q)) (.slice (some ⟨b,off,none⟩) (n+n') cap):=by
 have hlt:∀ r p ad c,G r p=some (ad,c)→ad.block < w.heap.size:=fun r p ad c hg=>(h.rng _ _ _ _ hg).2
 have hor:∀ j k q ad c,a8g G n S2 (j::k::q)=some (ad,c)→(j < n∧G (park 0) (0::0::j::k::q)=some (ad,c))∨(n≤j∧S2 ((j - n)::k::q)=some (ad,c)):=by
  intro j k q ad c hs
  simp only [a8g] at hs
  split at hs
  ·exact .inl ⟨‹_›,hs⟩
  ·exact .inr ⟨by omega,hs⟩
 have hpk:∀ j k q ad c,a8g G n S2 (j::k::q)=some (ad,c)→(∃ z p' c',G (park z) p'=some (ad,c'))∧ad.block≠b:=by
  intro j k q ad c hs
  have key:∃ z p' c',G (park z) p'=some (ad,c')∧¬ (z=0∧p'=[0,0]):=by
   rcases hor _ _ _ _ _ hs with ⟨_,g⟩ | ⟨_,g⟩
   ·exact ⟨0,_,c,g,fun e=>by simp at e⟩
   ·obtain ⟨p',c',g'⟩:=hS1 _ _ _ _ _ g
    exact ⟨1,p',c',g',fun e=>by simp at e⟩
  obtain ⟨z,p',c',g,hne⟩:=key
  refine ⟨⟨z,p',c',g⟩,fun e=>?_⟩
  rcases hfr with ⟨c'',g0⟩ | ⟨hf,_⟩
  ·obtain ⟨e1,e2⟩:=h.inj _ _ _ _ _ _ _ _ g g0 e
   exact hne ⟨O5 e1,e2⟩
  ·have:=hlt _ _ _ _ g
   omega
 refine ⟨hw.refly _ ?_ ?_,?_⟩
 ·intro p ad c hp
  rcases a6h hp with ⟨_,y⟩ | ⟨j,k,q,_,y⟩
  ·cases y
   rcases hfr with ⟨c',g⟩ | ⟨hf,hf2⟩
   ·exact .inl ⟨0,_,c',g⟩
   ·refine .inr ⟨Nat.le_trans h.size hf,hf2,fun r p' ad' c' _ hg' e=>?_⟩
    have:=hlt _ _ _ _ hg'
    simp at e
    omega
  ·exact .inl (hpk _ _ _ _ _ y).1
 ·intro p p' ad c ad' c' hp hp' hbb
  rcases a6h hp with ⟨e1,y⟩ | ⟨j,k,q,e1,y⟩ <;> rcases a6h hp' with ⟨e2,y'⟩ | ⟨j',k',q',e2,y'⟩
  ·rw [e1,e2]
  ·cases y
   exact absurd hbb.symm (hpk _ _ _ _ _ y').2
  ·cases y'
   exact absurd hbb (hpk _ _ _ _ _ y).2
  ·rw [e1,e2]
   rcases hor _ _ _ _ _ y with ⟨l1,g1⟩ | ⟨l1,g1⟩ <;> rcases hor _ _ _ _ _ y' with ⟨l2,g2⟩ | ⟨l2,g2⟩
   ·exact (h.inj _ _ _ _ _ _ _ _ g1 g2 hbb).2
   ·obtain ⟨p1,c1,g2'⟩:=hS1 _ _ _ _ _ g2
    have:=O5 (h.inj _ _ _ _ _ _ _ _ g1 g2' hbb).1
    omega
   ·obtain ⟨p1,c1,g1'⟩:=hS1 _ _ _ _ _ g1
    have:=O5 (h.inj _ _ _ _ _ _ _ _ g1' g2 hbb).1
    omega
   ·obtain ⟨e3,rfl,rfl⟩:=hS2 _ _ _ _ _ _ _ _ _ _ g1 g2 hbb
    have:j=j':=by omega
    rw [this]
 ·rw [d0h]
  refine .inr ⟨b,off,cap,cs,e,rfl,rfl,⟨hn,hm⟩,hb,hsz,fun j hj k hk=>?_⟩
  have hext:∀ {t v},RelOwn w t (fun q=>a8g G n S2 (j::k::q)) v→RelOwn w1 t (fun q=>a8g G n S2 (j::k::q)) v:=fun hr=>hr.ext fun q ad c hq=>by
   obtain ⟨⟨z,p',c',g⟩,hne⟩:=hpk _ _ _ _ _ hq
   exact hkeep _ (hlt _ _ _ _ g) hne
  have hga:(fun q=>b8L b off cap (a8g G n S2) (0::0::j::k::q))=fun q=>a8g G n S2 (j::k::q):=rfl
  rw [hga]
  by_cases hjn:j < n
  ·obtain ⟨u,hu,hr⟩:=hold j hjn k hk
   refine ⟨u,hu,?_⟩
   have hbl:Nat.blt j n=true:=by simpa using hjn
   simp only [n6,hbl,cond_true]
   refine hext ?_
   have:(fun q=>a8g G n S2 (j::k::q))=fun q=>G (park 0) (0::0::j::k::q):=by funext q;simp [a8g,hjn]
   rw [this];exact hr
  ·obtain ⟨u,hu,hr⟩:=hnew (j - n) (by omega) k hk
   refine ⟨u,by rw [← hu];congr 4;omega,?_⟩
   have hbl:Nat.blt j n=false:=by
    cases e:Nat.blt j n
    ·rfl
    ·exact absurd (by simpa using e) hjn
   simp only [n6,hbl,cond_false]
   refine hext ?_
   have:(fun q=>a8g G n S2 (j::k::q))=fun q=>S2 ((j - n)::k::q):=by funext q;simp [a8g,hjn]
   rw [this];exact hr
theorem a5q (t ty e e':TypeId) (i:TypeInfo) (ht:P.underlying t=some (.slice e)) (hi:P.info? e=some i)
  (g off sLen sCap:Nat) (cur:Array Value) (hg:w.heap[g]?=some (.cells cur e' (0,0)))
  (A:Option Addr) (m c:Nat) (news:List Value) (hf:(Builtin.firstCells i.size m (.slice A m c)).run P w=.ok news.toArray w) (h1:∀ u∈news,u.oneCell'=true)
  (hroom:sLen+m≤sCap) (hfit:off+sLen*i.size+news.length≤cur.size) :
  (Builtin.append_ #[t,t] ty #[.slice (some ⟨g,off,none⟩) sLen sCap,.slice A m c]).run P w =
   .ok (.slice (some ⟨g,off,none⟩) (sLen+m) sCap) (w.setRow g (cur.toList.take (off+sLen*i.size) ++ news ++ cur.toList.drop (off+sLen*i.size+news.length)).toArray):=by
 have hst:=run_storeCells_at P g (off+sLen*i.size) e' news 0 cur w hg (by simpa using hfit) h1
 simp only [Nat.add_zero] at hst
 have ha:(⟨g,off,none⟩:Addr).add (sLen*i.size)=⟨g,off+sLen*i.size,none⟩:=Y7 _ _ _
 simp [Builtin.append_,l6 ht,sizeOf,typeInfo,hi,Builtin.lenOf,hroom,hf,ha,hst]
/-- An append: what the machine's program makes of it. -/
theorem c1e {E σ G} (h:Rel E σ a w G) {t ty e:TypeId} {i:TypeInfo} {z:Value} {m n n':Nat} {f f':Nat→Nat→T} {vx:Value} {A:Option Addr} {c':Nat} {S2:Path→Option (Addr × Nat)}
  (ht:P.underlying t=some (.slice e)) (hi:P.info? e=some i) (hz:i.zero=some z) (hzs:z.cells.size=i.size) (hs0:i.size≠0)
  (hx:RelOwn w (.arr m n f) (fun q=>G (park 0) (0::0::q)) vx) (hm:m=i.size∨m=0)
  (hy:0 < n'→∃ b o,A=some ⟨b,o,none⟩∧∀ j,j < n'→∀ k,k < i.size→∃ u,w.cell? ⟨b,o+(j*i.size+k),none⟩=some u∧RelOwn w (f' j k) (fun q=>S2 (j::k::q)) u)
  (hS1:∀ j k q ad c,S2 (j::k::q)=some (ad,c)→∃ p' c',G (park 1) p'=some (ad,c'))
  (hS2:∀ j k q j' k' q' ad c ad' c',S2 (j::k::q)=some (ad,c)→S2 (j'::k'::q')=some (ad',c')→ad.block=ad'.block→j=j'∧k=k'∧q=q')
  (hby:(n+n')*i.bytes≤lim) (hlen:n+n'≤lim) :
  ∃ v' w' G',(Builtin.append_ #[t,t] ty #[vx,.slice A n' c']).run P w=.ok v' w'∧Rel E σ a w' G'∧u7 G σ.V G' σ.V∧RelOwn w' (d6X i.size n f n' f') (fun q=>G' (park 0) (0::0::q)) v':=by
 unfold lim at hby hlen
 have hm0:0 < i.size:=by omega
 -- the appended cells, ags a list
 obtain ⟨news,hnl,hnews,hfc⟩:∃ news:List Value,news.length=n'*i.size∧(∀ j,j < n'→∀ k,k < i.size→∃ u,news[j*i.size+k]?=some u∧RelOwn w (f' j k) (fun q=>S2 (j::k::q)) u) ∧
   (0 < n'→∃ b o,A=some ⟨b,o,none⟩∧∀ j u,news[j]?=some u→w.cell? ((⟨b,o,none⟩:Addr).add j)=some u):=by
  by_cases h0:0 < n'
  ·obtain ⟨b,o,hA,hc⟩:=hy h0
   obtain ⟨us,hus,hh⟩:=b5r (Q:=fun x u=>w.cell? ⟨b,o+x,none⟩=some u∧RelOwn w (f' (x / i.size) (x % i.size)) (fun q=>S2 ((x / i.size)::(x % i.size)::q)) u) (n'*i.size) (fun x hx=>by
    obtain ⟨h1,h2,h3⟩:=b3E hm0 hx
    obtain ⟨u,hu,hr⟩:=hc _ h1 _ h2
    rw [h3] at hu
    exact ⟨u,hu,hr⟩)
   refine ⟨us,hus,fun j hj k hk=>?_,fun _=>⟨b,o,hA,fun j u hu=>by rw [Y7];exact (hh j u hu).1⟩⟩
   have hl:j*i.size+k < us.length:=by rw [hus];exact a4J hj hk
   have hd:(j*i.size+k) / i.size=j:=by rw [Nat.mul_comm,Nat.mul_add_div hm0,Nat.div_eq_of_lt hk];omega
   have hmd:(j*i.size+k) % i.size=k:=by rw [Nat.mul_comm,Nat.mul_add_mod,Nat.mod_eq_of_lt hk]
   have:=(hh _ _ (List.getElem?_eq_getElem hl)).2
   rw [hd,hmd] at this
   exact ⟨_,List.getElem?_eq_getElem hl,this⟩
  ·have:n'=0:=by omega
   subst this
   exact ⟨[],by simp,fun j hj=>by omega,fun hh=>by omega⟩
 have hone:∀ u∈news,u.oneCell'=true:=fun u hu=>by
  obtain ⟨x,hx⟩:=List.getElem?_of_mem hu
  have hxl:x < n'*i.size:=by rw [← hnl];exact (List.getElem?_eq_some_iff.1 hx).1
  obtain ⟨h1,h2,h3⟩:=b3E hm0 hxl
  obtain ⟨u',hu',hr⟩:=hnews _ h1 _ h2
  rw [h3,hx] at hu'
  obtain rfl:=Option.some.inj hu'
  exact hr.one
 have hfirst:(Builtin.firstCells i.size n' (.slice A n' c')).run P w=.ok news.toArray w:=by
  by_cases h0:0 < n'
  ·obtain ⟨b,o,rfl,hc⟩:=hfc h0
   exact run_firstCells_some (P:=P) w i.size n' ⟨b,o,none⟩ n' c' news hnl hc
  ·have h00:n'=0:=by omega
   subst h00
   have:news=[]:=List.eq_nil_of_length_eq_zero (by simpa using hnl)
   subst this
   cases A with
   | none=>simp [Builtin.firstCells]
   | some b=>simp [Builtin.firstCells,loadCells,loadCellsFrom]
 have hgz:∀ need old,need≤grownCap w need old e:=fun need old=>grownCap_ge w need old e
 rcases hx with ⟨g0,rfl,rfl⟩ | ⟨b,off,cap,cs,e',g0,rfl,hn,hb,hsz,hc⟩
 ·by_cases h0:n'=0
  ·subst h0
   have hnil:news=[]:=List.eq_nil_of_length_eq_zero (by simpa using hnl)
   subst hnil
   refine ⟨.slice none 0 0,w,G,?_,h,u7.refl _ _,.inl ⟨g0,rfl,rfl⟩⟩
   simp [Builtin.append_,l6 ht,sizeOf,typeInfo,hi,Builtin.lenOf,hfirst]
  ·obtain ⟨bb,o,rfl,hcc⟩:=hfc (by omega)
   have hr:=run_append_nil (P:=P) w t ty e i z ht hi hz ⟨bb,o,none⟩ n' c' news hnl hcc (by omega) (by omega) (by simp only [Nat.zero_add] at hby;omega)
   have hge:=hgz n' 0
   have hgr:=Q4 w (.cells (news.toArray ++ Builtin.zeroCells z.cells (grownCap w n' 0 e - n')) e)
   have hA:=d0j (w:=w) (m:=i.size) (n:=0) (n':=n') (cap:=grownCap w n' 0 e) (off:=0) (f:=f) (f':=f') h (h.grew hgr) hS1 hS2 (heap_alloc_new w.drew _) hm0 (by omega) (by
    simp only [Array.size_append,List.size_toArray,size_zeroCells,hzs,hnl,← Nat.add_mul]
    rw [Nat.zero_add]
    exact Nat.mul_le_mul_right _ (by omega)) (.inr ⟨Nat.le_refl _,by simp⟩) (fun j hj=>by omega) (fun j hj k hk=>by
    obtain ⟨u,hu,hrr⟩:=hnews j hj k hk
    refine ⟨u,?_,hrr⟩
    rw [Nat.zero_add,Nat.zero_add,Array.getElem?_append_left (by simp;rw [hnl];exact a4J hj hk)]
    simpa using hu) (fun b' hb' _=>hgr.old b' hb')
   refine ⟨_,_,_,hr,hA.1,b6I _ _ _,?_⟩
   have:=hA.2
   rw [Nat.zero_add] at this
   exact this
 ·have hmi:m=i.size:=by rcases hm with h1 | h1 <;> omega
  subst hmi
  by_cases hroom:n+n'≤cap
  ·have hfit:off+n*i.size+news.length≤cs.size:=by
    have:(n+n')*i.size≤cap*i.size:=Nat.mul_le_mul_right _ hroom
    rw [Nat.add_mul] at this
    omega
   have hr:=a5q (P:=P) (w:=w) t ty e e' i ht hi b off n cap cs hb A n' c' news hfirst hone hroom hfit
   have hW:Rel E σ a (w.setRow b (cs.toList.take (off+n*i.size) ++ news ++ cs.toList.drop (off+n*i.size+news.length)).toArray) G:=by
    refine h.world' rfl rfl rfl (by simp) (fun b' hb'=>setRow_other w b b' _ (fun e=>?_)) (fun r p ad c hr' hg=>setRow_other w b _ _ (fun e=>?_))
    ·have:=(h.rng _ _ _ _ g0).1
     rw [e] at hb'
     rcases this with h1 | h1
     ·have:=hb'.1;simp at h1;omega
     ·exact hb'.2 h1
    ·exact l5 hr' 0 (h.inj _ _ _ _ _ _ _ _ hg g0 e).1
   have hA:=d0j (w:=w) (m:=i.size) (n:=n) (n':=n') (cap:=cap) (off:=off) (f:=f) (f':=f') h hW hS1 hS2 (setRow_heap w b cs _ e' _ hb) hm0 hroom (by
    simp only [List.size_toArray,List.length_append,List.length_take,List.length_drop,Array.length_toList]
    omega) (.inl ⟨cap,g0⟩) (fun j hj k hk=>by
    obtain ⟨u,hu,hrr⟩:=hc j hj k hk
    refine ⟨u,?_,hrr⟩
    have:=a4J hj hk
    rw [List.getElem?_toArray,List.append_assoc,List.getElem?_append_left (by simp;omega),List.getElem?_take,if_pos (by omega)]
    simpa using hu) (fun j hj k hk=>by
    obtain ⟨u,hu,hrr⟩:=hnews j hj k hk
    refine ⟨u,?_,hrr⟩
    have:=a4J hj hk
    have e1:(cs.toList.take (off+n*i.size)).length=off+n*i.size:=by simp;omega
    rw [List.getElem?_toArray,List.append_assoc,List.getElem?_append_right (by rw [e1,Nat.add_mul];omega),e1,List.getElem?_append_left (by rw [hnl,Nat.add_mul];omega),← hu]
    congr 1
    rw [Nat.add_mul];omega) (fun b' _ hne=>setRow_other w b b' _ hne)
   exact ⟨_,_,_,hr,hA.1,b6I _ _ _,hA.2⟩
  ·-- the old cells, ags a list
   obtain ⟨olds,hol,hoh⟩:=b5r (Q:=fun x u=>cs[off+x]?=some u∧RelOwn w (f (x / i.size) (x % i.size)) (fun q=>G (park 0) (0::0::(x / i.size)::(x % i.size)::q)) u) (n*i.size) (fun x hx=>by
    obtain ⟨h1,h2,h3⟩:=b3E hm0 hx
    obtain ⟨u,hu,hr⟩:=hc _ h1 _ h2
    rw [h3] at hu
    exact ⟨u,hu,hr⟩)
   have hpos:0 < n':=by omega
   obtain ⟨bb,o,rfl,hcc⟩:=hfc hpos
   have hr:=run_append_grow (P:=P) w t ty e i z ht hi hz ⟨b,off,none⟩ n cap olds hol (fun j v hj=>by rw [Y7,O9 hb];exact (hoh j v hj).1) ⟨bb,o,none⟩ n' c' news hnl hcc (by omega) (by omega) (growslice_fits (by omega) (by omega))
   have hge:=hgz (n+n') cap
   have hgr:=Q4 w (.cells (olds.toArray ++ news.toArray ++ Builtin.zeroCells z.cells (grownCap w (n+n') cap e - (n+n'))) e)
   have hA:=d0j (w:=w) (m:=i.size) (n:=n) (n':=n') (cap:=grownCap w (n+n') cap e) (off:=0) (f:=f) (f':=f') h (h.grew hgr) hS1 hS2 (heap_alloc_new w.drew _) hm0 (by omega) (by
    simp only [Array.size_append,List.size_toArray,size_zeroCells,hzs,hnl,hol,← Nat.add_mul]
    rw [Nat.zero_add]
    exact Nat.mul_le_mul_right _ (by omega)) (.inr ⟨Nat.le_refl _,by simp⟩) (fun j hj k hk=>by
    have hlt:=a4J hj hk
    have hd:(j*i.size+k) / i.size=j:=by rw [Nat.mul_comm,Nat.mul_add_div hm0,Nat.div_eq_of_lt hk];omega
    have hmd:(j*i.size+k) % i.size=k:=by rw [Nat.mul_comm,Nat.mul_add_mod,Nat.mod_eq_of_lt hk]
    have hl:j*i.size+k < olds.length:=by omega
    have:=(hoh _ _ (List.getElem?_eq_getElem hl)).2
    rw [hd,hmd] at this
    refine ⟨_,?_,this⟩
    rw [Nat.zero_add,Array.getElem?_append_left (by simp;omega),Array.getElem?_append_left (by simpa using hl)]
    simp) (fun j hj k hk=>by
    obtain ⟨u,hu,hrr⟩:=hnews j hj k hk
    refine ⟨u,?_,hrr⟩
    have hlt:=a4J hj hk
    rw [Nat.zero_add,Array.getElem?_append_left (by simp only [Array.size_append,List.size_toArray,hol,hnl,Nat.add_mul];omega),Array.getElem?_append_right (by simp only [List.size_toArray,hol,Nat.add_mul];omega)]
    simp only [List.size_toArray,hol,List.getElem?_toArray]
    rw [← hu]
    congr 1
    rw [Nat.add_mul];omega) (fun b' hb' _=>hgr.old b' hb')
   exact ⟨_,_,_,hr,hA.1,b6I _ _ _,hA.2⟩
theorem b8M {t:T} {g:Gh} {v:Value} (h:RelOwn w t g v):RelOwn w t.plain noG v:=by
 cases t with
 | arr m n f=>exact h.one
 | lent m n=>exact h.one
 | _=>exact h
theorem e3K {w0:World} {N:Nat→Prop} {t:T} {v:Value} (h:V3 w0 N t v):RelOwn w t.plain noG v:=by
 cases t with
 | arr m n f=>exact h.one
 | lent m n=>exact h.one
 | _=>exact h
theorem c2t {E σ G} (h:Rel E σ a w G) {m n:Nat} {f:Nat→Nat→T} {v:Value} (hr:V3 E.w0 E.N (.arr m n f) v):∃ A c,v=.slice A n c ∧
  (0 < n→∃ b o,A=some ⟨b,o,none⟩∧∀ j,j < n→∀ k,k < m→∃ u,w.cell? ⟨b,o+(j*m+k),none⟩=some u∧RelOwn w (f j k).plain noG u):=by
 obtain ⟨A,c,rfl,_,hh⟩:=hr
 refine ⟨A,c,rfl,fun h0=>?_⟩
 obtain ⟨b,o,hA,hN,hc⟩:=hh h0
 refine ⟨b,o,hA,fun j hj k hk=>?_⟩
 obtain ⟨u,hu,hrr⟩:=hc j hj k hk
 exact ⟨u,h.cell0 hN hu,e3K hrr⟩
/-- What a reference leads to. -/
theorem b3F {E σ G} (h:Rel E σ a w G) {r ver:Nat} {p:Path} {m s n:Nat} {v:Value} (hr:l4 E G σ.V w noG (.ref r ver p m s n) v) (hver:(σ.get r).ver p=ver) {n':Nat} {f:Nat→Nat→T}
  (hat:rowsAt (σ.get r).rows p=some (.arr m n' f)) (hle:s+n≤n'):∃ A c,v=.slice A n c ∧
  (0 < n→∃ b o,A=some ⟨b,o,none⟩∧b < w.heap.size∧∀ j,j < n→∀ k,k < m→∃ u,w.cell? ⟨b,o+(j*m+k),none⟩=some u∧RelOwn w (f (s+j) k) (fun q=>G r (p ++ (s+j)::k::q)) u):=by
 obtain ⟨A,cap,rfl,hn,⟨hnp,_⟩,_,hval⟩:=hr
 refine ⟨A,cap,rfl,fun h0=>?_⟩
 obtain ⟨b,off,cap',cs,e,hg,_,hw,_,hh⟩:=h.nested hnp hat (by omega)
 rcases hval hver with ⟨hg0,_⟩ | ⟨b',off',c',hg',_,hA⟩
 ·rw [hg] at hg0;cases hg0
 ·rw [hg] at hg'
  simp only [Option.some.injEq,Prod.mk.injEq,Addr.mk.injEq,and_true] at hg'
  obtain ⟨⟨rfl,rfl⟩,rfl⟩:=hg'
  refine ⟨b,off+s*m,hA h0,(Array.getElem?_eq_some_iff.1 hw).1,fun j hj k hk=>?_⟩
  obtain ⟨u,hu,hrr⟩:=hh (s+j) (by omega) k hk
  refine ⟨u,?_,hrr⟩
  rw [O9 hw,← hu]
  congr 1
  rw [Nat.add_mul];omega
theorem f2F {t:T} (h:t.isI .u8=true):t=.int .u8 t.toI:=by
 cases t with
 | int k n=>simp only [T.isI,decide_eq_true_eq] at h;subst h;rfl
 | _=>simp [T.isI] at h
theorem d8Z {e:TypeId} (h:c9T P e=true):P.underlying e=some (.int .u8):=by
 unfold c9T at h
 split at h
 ·assumption
 ·cases h
theorem e3L {n:Nat} {f:Nat→Nat→T} (h:c3P n f=true) {j:Nat} (hj:j < n):(f j 0).isI .u8=true:=by
 unfold c3P at h
 exact List.all_eq_true.1 h j (List.mem_range.2 hj)
theorem d7i {n:Nat} {f:Nat→Nat→T} {j:Nat} (hj:j < n):(a7o n f).getD j 0=(f j 0).toI:=by
 unfold a7o
 rw [List.getD_eq_getElem?_getD,List.getElem?_map,List.getElem?_range hj]
 rfl
theorem d7j {dst s d x ty pos after guard}:O7 P φ ⟨dst,.convert s d x,ty,pos,after,guard⟩ (opP P ⟨dst,.convert s d x,ty,pos,after,guard⟩):=by
 intro E σ a w L σ' L' ⟨G,hG,hp⟩ hrun K Q hK
 obtain ⟨c',σ1,L1,h1,h2⟩:=run_bind hrun
 obtain ⟨rfl,hrel⟩:=o7 hG h1
 have fin:∀ {e:TypeId} {A:Option Addr} {n cap:Nat} {f:Nat→Nat→T} {L2},P.underlying s=some (.slice e)→P.underlying d=some .string→c9T P e=true→c3P n f=true→a.eval x=.slice A n cap →
   (0 < n→∃ b o,A=some ⟨b,o,none⟩∧∀ j,j < n→∃ u,w.cell? ⟨b,o+j,none⟩=some u∧RelOwn w (f j 0).plain noG u)→(a1J dst (.str (strOfNums (a7o n f)))).run φ σ1 L2=some ((),σ',L') →
   Oper.wp P ⟨dst,.convert s d x,ty,pos,after,guard⟩ a w K Q:=by
  intro e A n cap f L2 hs hd he hall hv hc hput
  refine m4 (v:=.string (strOfNums (a7o n f))) (w':=w) ?_ (hK _ _ (a0s hG hp (t:=.str (strOfNums (a7o n f))) rfl hput))
  have he':=d8Z he
  simp only [execOp,hv,Sem.run_bind]
  by_cases h0:0 < n
  ·obtain ⟨b,o,rfl,hcell⟩:=hc h0
   rw [run_convert_bytes_arg (P:=P) w s e hs he' b o n cap (a7o n f) (by simp [a7o]) (fun i hi=>by
    obtain ⟨u,hu,hr⟩:=hcell i hi
    rw [f2F (e3L hall hi)] at hr
    rw [hu,d7i hi]
    exact congrArg some hr) d hd]
   rfl
  ·have:n=0:=by omega
   subst this
   cases A with
   | none =>
    rw [run_convert_bytes_nil (P:=P) (w:=w) s e hs he' 0 cap d hd]
    rfl
   | some ad =>
    have hz:(convert s d (.slice (some ad) 0 cap)).run P w=.ok (.string (strOfNums [])) w:=by
     rw [run_convert_bytes_string w s d e _ 0 cap hs he' hd]
     rw [run_bytesToString w ad 0 cap [] (by simp [loadCells,loadCellsFrom])]
     rfl
    rw [hz]
    rfl
 simp only at h2
 split at h2
 ·rename_i k0 k own k1 n hs hd
  have hv:=a2c hrel
  refine m4 (v:=.int k (k.wrap n)) (w':=w) ?_ (hK _ _ (a0s hG hp (t:=.int k (k.wrap n)) rfl h2))
  simp [execOp,convert,l6 hs,l6 hd,hv,Conv.intToInt]
 ·rename_i e own m n f hs hd
  obtain ⟨hb,h3⟩:=j9 h2
  simp only [Bool.and_eq_true] at hb
  obtain ⟨he,hm,hall⟩:=hb
  have hm:=j8 hm
  subst hm
  cases own with
  | false =>
   obtain ⟨A,c,hv,hc⟩:=c2t hG hrel
   exact fin hs hd he hall hv (fun h0=>by
    obtain ⟨b,o,hA,hh⟩:=hc h0
    refine ⟨b,o,hA,fun j hj=>?_⟩
    obtain ⟨u,hu,hr⟩:=hh j hj 0 (by omega)
    exact ⟨u,by simpa using hu,hr⟩) h3
  | true =>
   rcases hrel with ⟨_,rfl,hv⟩ | ⟨b,off,cap,cs,e',hg,_⟩
   ·exact fin hs hd he hall hv (fun h0=>by omega) h3
   ·simp [noG] at hg
 ·rename_i e r ver p m s0 n hs hd
  simp only [O6] at h2
  obtain ⟨m',n',f,hat,_,h3⟩:=W4 h2
  obtain ⟨hb,h4⟩:=j9 h3
  simp only [Bool.and_eq_true] at hb
  obtain ⟨hver,hmm,hle,he,hm,hall⟩:=hb
  have hmm:=j8 hmm
  have hm:=j8 hm
  subst hmm
  subst hm
  obtain ⟨A,c,hv,hc⟩:=b3F hG hrel (j8 hver) hat (Nat.le_of_ble_eq_true hle)
  exact fin hs hd he hall hv (fun h0=>by
   obtain ⟨b,o,hA,_,hh⟩:=hc h0
   refine ⟨b,o,hA,fun j hj=>?_⟩
   obtain ⟨u,hu,hr⟩:=hh j hj 0 (by omega)
   refine ⟨u,by simpa using hu,?_⟩
   rw [b1h 0 hj]
   exact b8M hr) h4
 ·exact (i5 h2).elim
theorem f0M {dst x y ts ty pos after guard}:O7 P φ ⟨dst,.call ⟨.builtin .min,⟨[x,y]⟩,ts⟩,ty,pos,after,guard⟩ ((C0 x).bind fun x=>(C0 y).bind fun y=>match x,y with
    | .tr _ (.int k a),.tr _ (.int k' b)=>o4 (decide (k=k')) (a1J dst (.int k (if b < a then b else a)))
    | _,_=>.fail):=by
 intro E σ a w L σ' L' ⟨G,hG,hp⟩ hrun K Q hK
 obtain ⟨c1,σ1,L1,h1,h2⟩:=run_bind hrun
 obtain ⟨rfl,hr1⟩:=o7 hG h1
 obtain ⟨c2,σ2,L2,h3,h4⟩:=run_bind h2
 obtain ⟨rfl,hr2⟩:=o7 hG h3
 split at h4
 ·rename_i o k n o' k' n'
  obtain ⟨hb,h5⟩:=j9 h4
  have hk:=of_decide_eq_true hb
  subst hk
  have hv1:=a2c hr1
  have hv2:=a2c hr2
  refine m4 (v:=.int k (if n' < n then n' else n)) (w':=w) ?_ (hK _ _ (a0s hG hp (t:=.int k (if n' < n then n' else n)) rfl h5))
  simp [execOp,resolve,invoke,builtin,Builtin.min_,Builtin.min2,hv1,hv2]
 ·exact (i5 h4).elim
theorem b3G {t ty:TypeId} {x y:Operand} {dst pos after guard v w'} (h:(Builtin.append_ #[t,t] ty #[a.eval x,a.eval y]).run P w=.ok v w') :
  (execOp a.eval ⟨dst,.call ⟨.builtin .append,#[x,y],#[t,t]⟩,ty,pos,after,guard⟩).run P w=.ok (.value v) w':=by
 simp [execOp,resolve,invoke,builtin,h]
theorem b8N {m n m' n':Nat} {e:TypeId} (h:((Nat.beq m (m7 P e) || Nat.beq m 0)&&((Nat.beq m' (m7 P e) || Nat.beq n' 0)&&(a2Z P e&&(Nat.ble ((n+n')*bytesOf P e) lim&&Nat.ble (n+n') lim))))=true) :
  ∃ i z,P.info? e=some i∧i.zero=some z∧z.cells.size=i.size∧i.size≠0∧i.size=m7 P e∧(m=i.size∨m=0)∧(m'=i.size∨n'=0)∧(n+n')*i.bytes≤lim∧n+n'≤lim:=by
 simp only [Bool.and_eq_true,Bool.or_eq_true] at h
 obtain ⟨h1,h2,h3,h4,h5⟩:=h
 obtain ⟨z,i,hi,his,hs0,hby,hz,hzs,_⟩:=b4x (P:=P) (w:=default) h3
 refine ⟨i,z,hi,hz,by rw [hzs,his],by rw [his];exact hs0,his,?_,?_,by rw [hby];exact Nat.le_of_ble_eq_true h4,Nat.le_of_ble_eq_true h5⟩
 ·rw [his];exact h1.imp j8 j8
 ·rw [his];exact h2.imp j8 j8
theorem b5s (t:T):t.at []=some t:=by cases t <;> rfl
theorem c5F {w:World} {u0 u:T}:(p:Path)→{t t':T}→{g g':Gh}→{v:Value}→RelOwn w t g v→t.at p=some u0→t.put p u=some t'→(∀ q,¬ p <+: q→g' q=g q) →
  (∀ x,RelOwn w u0 (fun q=>g (p ++ q)) x→RelOwn w u (fun q=>g' (p ++ q)) x)→RelOwn w t' g' v
 | [],t,t',g,g',v,h,ha,e,_,key=>by
  rw [b5s] at ha
  have:t'=u:=by cases t <;> simp [T.put] at e <;> exact e.symm
  subst this
  obtain rfl:=Option.some.inj ha
  exact key v h
 | [j],t,t',g,g',v,h,ha,e,_,_=>by cases t <;> simp [T.put] at e
 | j::k::q,t,t',g,g',v,h,ha,e,hg,key=>by
  cases t with
  | arr m n f =>
   simp only [T.put] at e
   simp only [T.at] at ha
   cases hb:(Nat.blt j n&&Nat.blt k m) with
   | false=>simp [hb] at e
   | true =>
    simp only [hb,cond_true] at e ha
    simp only [Bool.and_eq_true,Nat.blt_eq] at hb
    cases hp:(f j k).put q u with
    | none=>simp [hp] at e
    | some t1 =>
     simp only [hp,Option.some.injEq] at e
     subst e
     have hg0:g' []=g []:=hg [] (by simp)
     rcases h with ⟨_,h0,_⟩ | ⟨b,off,cap,cs,e',h1,h2,h3,h4,h5,h6⟩
     ·omega
     ·refine .inr ⟨b,off,cap,cs,e',hg0.trans h1,h2,h3,h4,h5,fun j' hj k' hk=>?_⟩
      obtain ⟨u1,hu,hr⟩:=h6 j' hj k' hk
      refine ⟨u1,hu,?_⟩
      by_cases ej:j'=j∧k'=k
      ·obtain ⟨rfl,rfl⟩:=ej
       simp only [E5,Bool.and_self,cond_true]
       exact c5F q hr ha hp (fun q' hq'=>hg _ (by simpa using hq')) key
      ·have:(Nat.beq j' j&&Nat.beq k' k)=false:=by
        by_cases e1:j'=j
        ·have e2:k'≠k:=fun e2=>ej ⟨e1,e2⟩
         simp [E4 e2]
        ·simp [E4 e1]
       simp only [this,cond_false]
       have:(fun q'=>g' (j'::k'::q'))=fun q'=>g (j'::k'::q'):=funext fun q'=>hg _ (by
        intro hpre
        rw [List.cons_prefix_cons,List.cons_prefix_cons] at hpre
        exact ej ⟨hpre.1.symm,hpre.2.1.symm⟩)
       rw [this]
       exact hr
  | _=>simp [T.put] at e
theorem RelRows.chg {E G V w g g' rows rows' v p u0 u} (h:RelRows E G V w g rows v) (hat:rowsAt rows p=some u0) (ha:C3 rows u p=some rows') (hg:∀ q,¬ p <+: q→g' q=g q)
  (key:∀ x,RelOwn w u0 (fun q=>g (p ++ q)) x→RelOwn w u (fun q=>g' (p ++ q)) x):RelRows E G V w g' rows' v:=by
 obtain ⟨i,k,q,ag,cs,t0,t1,rfl,h1,h2,h3,rfl⟩:=Y6 ha
 have h4:t0.at q=some u0:=by simpa only [rowsAt,h1,h2] using hat
 obtain ⟨z,hr,back⟩:=h.row h1
 obtain ⟨vs,hc,back'⟩:=hr.cs (by rintro rfl;simp at h2)
 refine back g' _ (fun i' k' q' hne=>hg _ fun hp=>?_) (back' _ _ _ _ _ _ (by simp) (hc.set (fun x hx=>?_) fun k' hk'=>?_))
 ·rw [List.cons_prefix_cons] at hp
  exact hne hp.1.symm
 ·obtain ⟨x',hx',hxr⟩:=hc.at h2
  rw [hx] at hx'
  obtain rfl:=Option.some.inj hx'
  exact c5F q hxr h4 h3 (fun q' hq'=>hg _ (by simpa using hq')) key
 ·funext q'
  exact hg _ fun hp=>by
   rw [List.cons_prefix_cons,List.cons_prefix_cons] at hp
   exact hk' hp.2.1.symm
theorem B6.chg {E G V w g g' rows rows' p u0 u} (h:B6 E G V w g rows) (hat:rowsAt rows p=some u0) (ha:C3 rows u p=some rows') (hg:∀ q,¬ p <+: q→g' q=g q)
  (key:∀ x,RelOwn w u0 (fun q=>g (p ++ q)) x→RelOwn w u (fun q=>g' (p ++ q)) x):B6 E G V w g' rows':=by
 obtain ⟨i,k,q,ag,cs,t0,t1,rfl,h1,h2,h3,rfl⟩:=Y6 ha
 have h4:t0.at q=some u0:=by simpa only [rowsAt,h1,h2] using hat
 rcases h with rfl | ⟨row,b,vs,e,rfl,hb,hw,hc⟩
 ·simp at h1
 ·cases i with
  | succ i=>simp at h1
  | zero =>
   simp at h1
   subst h1
   refine .inr ⟨(ag,cs.set k (.tr true t1)),b,vs,e,rfl,(hg [] (by simp)).trans hb,hw,hc.set (fun x hx=>?_) fun k' hk'=>?_⟩
   ·obtain ⟨x',hx',hxr⟩:=hc.at h2
    rw [hx] at hx'
    obtain rfl:=Option.some.inj hx'
    exact c5F q hxr h4 h3 (fun q' hq'=>hg _ (by simpa using hq')) key
   ·funext q'
    exact hg _ fun hp=>by
     rw [List.cons_prefix_cons,List.cons_prefix_cons] at hp
     exact hk' hp.2.1.symm
/-- The ghost behind a move of rows: what lay under rows s, .., s + n - 1 of (r, p) is in flight at park y. -/
noncomputable def mwG (G:GG) (r:Nat) (p:Path) (s n:Nat) (y:Nat):GG:=open Classical in fun r' q =>
 if r'=y then (match q with
  | 0::0::j::k::q2=>if s≤j∧j < s+n then G r (p ++ j::k::q2) else G r' (0::0::j::k::q2)
  | q=>G r' q)
 else if r'=r∧∃ j k q2,q=p ++ j::k::q2∧s≤j∧j < s+n then none else G r' q
theorem c2u {G:GG} {r p s n y r' q z} (hy:G y=noG) (h:mwG G r p s n y r' q=some z) :
  (r'=y∧∃ j k q2,q=0::0::j::k::q2∧s≤j∧j < s+n∧G r (p ++ j::k::q2)=some z)∨(r'≠y∧¬ (r'=r∧∃ j k q2,q=p ++ j::k::q2∧s≤j∧j < s+n)∧G r' q=some z):=by
 unfold mwG at h
 split at h
 ·rename_i e
  subst e
  rw [hy] at h
  split at h
  ·rename_i j k q2
   split at h
   ·rename_i hj
    exact .inl ⟨rfl,j,k,q2,rfl,hj.1,hj.2,h⟩
   ·cases h
  ·cases h
 ·rename_i e
  split at h
  ·cases h
  ·exact .inr ⟨e,‹_›,h⟩
theorem e7B {G:GG} (h:a1M G) {r p s n y} (hy:G y=noG):a1M (mwG G r p s n y):=by
 intro r1 q1 r2 q2 ad c ad' c' h1 h2 hb
 rcases c2u hy h1 with ⟨e1,j1,k1,p1,rfl,a1,b1,g1⟩ | ⟨n1,m1,g1⟩ <;> rcases c2u hy h2 with ⟨e2,j2,k2,p2,rfl,a2,b2,g2⟩ | ⟨n2,m2,g2⟩
 ·have:=(h _ _ _ _ _ _ _ _ g1 g2 hb).2
  rw [List.append_cancel_left_eq] at this
  exact ⟨e1.trans e2.symm,by rw [this]⟩
 ·obtain ⟨e,ep⟩:=h _ _ _ _ _ _ _ _ g1 g2 hb
  exact absurd ⟨e.symm,j1,k1,p1,ep.symm,a1,b1⟩ m2
 ·obtain ⟨e,ep⟩:=h _ _ _ _ _ _ _ _ g1 g2 hb
  exact absurd ⟨e,j2,k2,p2,ep,a2,b2⟩ m1
 ·exact h _ _ _ _ _ _ _ _ g1 g2 hb
theorem e7C {E w} {G:GG} (h:a3a E w G) {r p s n y} (hy:G y=noG):a3a E w (mwG G r p s n y):=by
 intro r1 q1 ad c h1
 rcases c2u hy h1 with ⟨_,j,k,q2,_,_,_,g1⟩ | ⟨_,_,g1⟩
 ·exact h _ _ _ _ g1
 ·exact h _ _ _ _ g1
theorem c5G {G:GG} {r p s n y r' q} (h1:r'≠y) (h2:¬ p <+: q∨r'≠r):mwG G r p s n y r' q=G r' q:=by
 unfold mwG
 rw [if_neg h1,if_neg]
 rintro ⟨e,j,k,q2,rfl,_⟩
 rcases h2 with h2 | h2
 ·exact h2 (List.prefix_append _ _)
 ·exact h2 e
theorem d0k {G:GG} {r p s n y} (h1:r≠y):mwG G r p s n y r p=G r p:=by
 unfold mwG
 rw [if_neg h1,if_neg]
 rintro ⟨_,j,k,q2,e,_⟩
 have:=congrArg List.length e
 simp at this
theorem e7D {G:GG} {r p s n y j k q} (h1:r≠y) (hj:¬ (s≤j∧j < s+n)):mwG G r p s n y r (p ++ j::k::q)=G r (p ++ j::k::q):=by
 unfold mwG
 rw [if_neg h1,if_neg]
 rintro ⟨_,j',k',q2,e,hj'⟩
 rw [List.append_cancel_left_eq] at e
 obtain ⟨rfl,_⟩:=List.cons.inj e
 exact hj hj'
theorem e7E {G:GG} {r p s n y p'} (h1:r≠y) (h:¬ (p <+: p'∧p≠p')):mwG G r p s n y r p'=G r p':=by
 unfold mwG
 rw [if_neg h1,if_neg]
 rintro ⟨_,j,k,q2,rfl,_⟩
 exact h ⟨List.prefix_append _ _,fun e=>by have:=congrArg List.length e;simp at this⟩
theorem f0N {G:GG} {r p s n y j k q} (hj:s≤j∧j < s+n):mwG G r p s n y y (0::0::j::k::q)=G r (p ++ j::k::q):=by
 simp only [mwG,if_true,if_pos hj]
theorem c8v {w:World} {t:T} {g g':Gh} {v:Value} (h:RelOwn w t g v):RelOwn w t.plain g' v:=by
 cases t with
 | arr m n f=>exact h.one
 | lent m n=>exact h.one
 | _=>exact h
theorem d4D {s n:Nat} {f:Nat→Nat→T} {j k:Nat}:b4s s n f j k=if s≤j∧j < s+n then (f j k).plain else f j k:=by
 unfold b4s
 have e1:Nat.ble s j=decide (s≤j):=by
  rw [Bool.eq_iff_iff,Nat.ble_eq,decide_eq_true_eq]
 have e2:Nat.blt j (s+n)=decide (j < s+n):=by
  rw [Bool.eq_iff_iff,Nat.blt_eq,decide_eq_true_eq]
 rw [e1,e2]
 by_cases h1:s≤j <;> by_cases h2:j < s+n <;> simp [h1,h2]
theorem d9a (s:Nat) (f:Nat→Nat→T) (j k:Nat):shF s f j k=f (s+j) k:=by
 unfold shF
 cases h:Nat.beq s 0 with
 | true =>
  have:=j8 h
  subst this
  rw [cond_true,Nat.zero_add]
 | false=>rfl
theorem d9b:∀ (q:Path) (t x:T),t.at q=some x→t.get q=x
 | [],t,x,h=>by
  have e:t.at []=some t:=b5s t
  rw [e] at h
  have e2:t.get []=t:=by cases t <;> rfl
  rw [e2]
  exact Option.some.inj h
 | [j],t,x,h=>by cases t <;> cases h
 | j::k::q,t,x,h=>by
  cases t with
  | arr m n f =>
   have h':(bif Nat.blt j n&&Nat.blt k m then (f j k).at q else none)=some x:=h
   cases hb:(Nat.blt j n&&Nat.blt k m) with
   | true =>
    rw [hb,cond_true] at h'
    exact d9b q _ _ h'
   | false =>
    rw [hb] at h'
    cases h'
  | _=>cases h
theorem d7k {rows:List Row} {p:Path} {t:T} (h:rowsAt rows p=some t):E9 rows p=t:=by
 unfold rowsAt at h
 split at h
 case h_2=>cases h
 rename_i i k q
 split at h
 case h_2=>cases h
 rename_i g cs hr
 split at h
 case h_2=>cases h
 rename_i t0 hc
 have hcell:v6 rows i k=t0:=by unfold v6;simp only [hr,hc]
 show (v6 rows i k).get q=t
 rw [hcell]
 exact d9b q _ _ h
theorem d7l {E σ G} (h:Rel E σ a w G) (φ:Sems) (hp:G (park 1)=noG) {r ver:Nat} {p:Path} {m s n:Nat} {v:Value} (hc:l4 E G σ.V w noG (.ref r ver p m s n) v)
  {L c' σ' L'} (hrun:(d6Y (.ref r ver p m s n)).run φ σ L=some (c',σ',L')) :
  ∃ (G':GG) (A:Option Addr) (c:Nat) (f0:Nat→Nat→T) (S2:Path→Option (Addr × Nat)),c'=.tr true (.arr m n f0)∧v=.slice A n c∧Rel E σ' a w G'∧u7 G σ.V G' σ'.V∧G' (park 0)=G (park 0) ∧
   (0 < n→∃ b o,A=some ⟨b,o,none⟩∧∀ j,j < n→∀ k,k < m→∃ u,w.cell? ⟨b,o+(j*m+k),none⟩=some u∧RelOwn w (f0 j k) (fun q=>S2 (j::k::q)) u) ∧
   (∀ j k q ad c,S2 (j::k::q)=some (ad,c)→∃ p' c',G' (park 1) p'=some (ad,c')) ∧
   (∀ j k q j' k' q' ad c ad' c',S2 (j::k::q)=some (ad,c)→S2 (j'::k'::q')=some (ad',c')→ad.block=ad'.block→j=j'∧k=k'∧q=q'):=by
 simp only [d6Y] at hrun
 cases hr4:Nat.beq (r % 4) 2 with
 | true =>
  rw [hr4,cond_true] at hrun
  exact (i5 hrun).elim
 | false =>
  rw [hr4,cond_false] at hrun
  simp only [O6] at hrun
  ·obtain ⟨m',n',f,hat,hputs,hrun1⟩:=W4 hrun
   obtain ⟨hb,hrun2⟩:=j9 hrun1
   simp only [Bool.and_eq_true] at hb
   obtain ⟨hb1,hb2,hb3⟩:=hb
   have e1:=j8 hb1;have e2:=Nat.le_of_ble_eq_true hb2;have e3:=j8 hb3
   subst e3
   have hput:=hputs (.arr m n' (b4s s n f))
   replace hrun2:=f0H hrun2
   rw [d7k hat,show T.reHd (.arr m n' f) (.arr m n' (b4s s n f))=.arr m n' (b4s s n f) from rfl] at hrun2
   generalize n8 (σ.get r).rows (.arr m n' (b4s s n f)) p=rows at hrun2 hput
   obtain ⟨hhas,hrun⟩:=hrun2
   obtain ⟨rfl,rfl,rfl⟩:c'=.tr true (.arr m n (shF s f))∧σ'=σ.set r ⟨E0 p (σ.get r).ver,rows⟩∧L'=(r,.dn p)::(r,.rd)::L:=by
    have:=g7 hrun
    simp at this
    exact this
   obtain ⟨A,c,hv,hcells⟩:=b3F h hc e1 hat e2
   have hnp:notPark r:=by
    obtain ⟨_,_,_,_,⟨hnp,_⟩,_⟩:=hc
    exact hnp
   have hry:r≠park 1:=l5 hnp 1
   have hpne:p≠[]:=by
    obtain ⟨_,_,_,_,⟨_,hpne⟩,_⟩:=hc
    exact hpne
   have hGin:=e7B h.inj (r:=r) (p:=p) (s:=s) (n:=n) hp
   have hGr:=e7C h.rng (r:=r) (p:=p) (s:=s) (n:=n) hp
   have hother:∀ r',notPark r'→r'≠r→mwG G r p s n (park 1) r'=G r':=fun r' h1 h2=>funext fun q=>c5G (l5 h1 1) (.inr h2)
   have hin:∀ q,¬ p <+: q→mwG G r p s n (park 1) r q=G r q:=fun q hq=>c5G hry (.inl hq)
   have key:∀ x,RelOwn w (.arr m n' f) (fun q=>G r (p ++ q)) x→RelOwn w (.arr m n' (b4s s n f)) (fun q=>mwG G r p s n (park 1) r (p ++ q)) x:=fun x hx=>by
    rcases hx with ⟨g0,n0,hx⟩ | ⟨b,off,cap,cs,e,hg,hx,hn,hw,hs,hh⟩
    ·refine .inl ⟨?_,n0,hx⟩
     simp only [List.append_nil] at g0 ⊢
     rw [d0k hry]
     exact g0
    ·refine .inr ⟨b,off,cap,cs,e,?_,hx,hn,hw,hs,fun j hj k hk=>?_⟩
     ·simp only [List.append_nil] at hg ⊢
      rw [d0k hry]
      exact hg
     ·obtain ⟨u,hu,hr⟩:=hh j hj k hk
      refine ⟨u,hu,?_⟩
      rw [d4D]
      by_cases hj2:s≤j∧j < s+n
      ·rw [if_pos hj2]
       exact c8v hr
      ·rw [if_neg hj2]
       have:(fun q=>mwG G r p s n (park 1) r (p ++ j::k::q))=fun q=>G r (p ++ j::k::q):=funext fun q=>e7D hry hj2
       rw [this]
       exact hr
   obtain ⟨h1,h2⟩:=h.rootV r hnp rows (E0 p (σ.get r).ver) hGin hGr hother
    (fun p'=>⟨b1A _ _ _,fun hb=>e7E hry (b1B hb)⟩)
    (fun t e=>by
     subst e
     exact (h.slots t).chg hat hput hin key)
    (fun t e=>by
     subst e
     exact ⟨(h.box' t).chg hat hput hin key,fun ht=>(hin [] (by simpa using hpne)).trans (h.xbox t ht)⟩)
    (fun t e=>by
     subst e
     exact (h.exts t).chg hat hput hin key) hhas
   refine ⟨_,A,c,_,fun q=>match q with | j::k::q2=>if j < n then mwG G r p s n (park 1) (park 1) (0::0::(s+j)::k::q2) else none | _=>none,rfl,hv,h1,h2,?_,fun h0=>?_,?_,?_⟩
   ·funext q
    exact c5G (by decide) (.inr fun e=>l5 hnp 0 e.symm)
   ·obtain ⟨b,o,hA,_,hh⟩:=hcells h0
    refine ⟨b,o,hA,fun j hj k hk=>?_⟩
    obtain ⟨u,hu,hr⟩:=hh j hj k hk
    refine ⟨u,hu,?_⟩
    have:(fun q=>if j < n then mwG G r p s n (park 1) (park 1) (0::0::(s+j)::k::q) else none)=fun q=>G r (p ++ (s+j)::k::q):=funext fun q=>by
     rw [if_pos hj]
     exact f0N ⟨by omega,by omega⟩
    dsimp only
    rw [this,d9a]
    exact hr
   ·intro j k q ad c hS
    dsimp only at hS
    split at hS
    ·exact ⟨_,_,hS⟩
    ·cases hS
   ·intro j k q j' k' q' ad c ad' c' hS hS' hbb
    dsimp only at hS hS'
    split at hS
    ·split at hS'
     ·have:=(hGin _ _ _ _ _ _ _ _ hS hS' hbb).2
      simp only [List.cons.injEq,true_and] at this
      exact ⟨by omega,this.2.1,this.2.2⟩
     ·cases hS'
    ·cases hS
theorem d9c {dst t e x y ty pos after guard} (he:a0q P t=some e):O7 P φ ⟨dst,.call ⟨.builtin .append,#[x,y],#[t,t]⟩,ty,pos,after,guard⟩ (c5A P e dst x y):=by
 intro E σ a w L σ' L' ⟨G,hG,hp⟩ hrun K Q hK
 have hu:=a2j he
 obtain ⟨row,σ1,L1,h1,h2⟩:=run_bind hrun
 obtain ⟨G1,hG1,hrow,hgood1,hpk1⟩:=a5m hG 0 (hp 0) h1
 split at h2
 case h_2=>exact (i5 h2).elim
 rename_i m n f
 have hx:RelOwn w (.arr m n f) (fun q=>G1 (park 0) (0::0::q)) (a.eval x):=hrow
 have hp1:G1 (park 1)=noG:=by rw [hpk1 1 (by omega)];exact hp 1
 obtain ⟨yc,σ2,L2,h3,h4⟩:=run_bind h2
 obtain ⟨rfl,hy⟩:=o7 hG1 h3
 -- a flat source
 have flat:∀ {m' n':Nat} {f':Nat→Nat→T} {A:Option Addr} {c:Nat} {L3},a.eval y=.slice A n' c →
   (∀ i:TypeInfo,(m'=i.size∨n'=0)→0 < n'→∃ b o,A=some ⟨b,o,none⟩∧∀ j,j < n'→∀ k,k < i.size→∃ u,w.cell? ⟨b,o+(j*i.size+k),none⟩=some u∧RelOwn w (f' j k).plain noG u) →
   (b6D P e dst m n f m' n' f').run φ σ2 L3=some ((),σ',L')→Oper.wp P ⟨dst,.call ⟨.builtin .append,#[x,y],#[t,t]⟩,ty,pos,after,guard⟩ a w K Q:=by
  intro m' n' f' A c L3 hv hc hr
  obtain ⟨hb,hr⟩:=j9 hr
  obtain ⟨i,z,hi,hz,hzs,hs0,hsz,hm,hm',hby,hlen⟩:=b8N hb
  obtain ⟨v',w',G',hrun',hG',_,hown⟩:=c1e (P:=P) (ty:=ty) (f':=fun j k=>(f' j k).plain) (S2:=fun _=>none) hG1 hu hi hz hzs hs0 hx hm (hc i hm') (fun _ _ _ _ _ h=>by simp at h) (fun _ _ _ _ _ _ _ _ _ _ h=>by simp at h) hby hlen
  rw [← hsz] at hr
  exact m4 (b3G (by rw [hv];exact hrun')) (hK _ _ (a7t hG' hown hr))
 split at h4
 ·rename_i own m' n' f'
  cases own with
  | false =>
   obtain ⟨A,c,hv,hc⟩:=c2t hG1 hy
   refine flat hv (fun i hm' h0=>?_) h4
   obtain ⟨b,o,hA,hh⟩:=hc h0
   have:m'=i.size:=by omega
   subst this
   exact ⟨b,o,hA,hh⟩
  | true =>
   rcases hy with ⟨_,rfl,hv⟩ | ⟨b,off,cap,cs,e',g,_⟩
   ·exact flat hv (fun i _ h0=>by omega) h4
   ·simp [noG] at g
 ·rename_i r ver p m' s n'
  cases hfl:d8O P e with
  | true =>
   simp only [hfl,cond_true] at h4
   obtain ⟨c,σ3,L3,h5,h6⟩:=run_bind h4
   simp only [b8u,O6] at h5
   ·obtain ⟨m0,n0,f0,hat,_,h5a⟩:=W4 h5
    replace h5a:=j9 h5a
    obtain ⟨hb,h5b⟩:=h5a
    simp only [Bool.and_eq_true] at hb
    obtain ⟨hb1,hb2,hb3⟩:=hb
    have e1:=j8 hb1
    have e2:=j8 hb2
    have e3:=Nat.le_of_ble_eq_true hb3
    subst e2
    have:=g7 h5b
    simp only [Prod.mk.injEq] at this
    obtain ⟨rfl,rfl,rfl⟩:=this
    obtain ⟨A,c,hv,hc⟩:=b3F hG1 hy e1 hat e3
    refine flat hv (fun i hm' h0=>?_) h6
    obtain ⟨b,o,hA,_,hh⟩:=hc h0
    have:m'=i.size:=by omega
    subst this
    exact ⟨b,o,hA,fun j hj k hk=>let ⟨u,hu,hr⟩:=hh j hj k hk;⟨u,hu,by rw [b1h k hj];exact b8M hr⟩⟩
  | false =>
   simp only [hfl,cond_false] at h4
   obtain ⟨c,σ3,L3,h5,h6⟩:=run_bind h4
   obtain ⟨G2,A,c0,f0,S2,rfl,hv,hG2,hgood2,hpk2,hc,hS1,hS2⟩:=d7l hG1 φ hp1 hy h5
   ·have hx2:RelOwn w (.arr m n f) (fun q=>G2 (park 0) (0::0::q)) (a.eval x):=by
     rw [hpk2];exact hx
    obtain ⟨hb,h6⟩:=j9 h6
    obtain ⟨i,z,hi,hz,hzs,hs0,hsz,hm,hm',hby,hlen⟩:=b8N hb
    obtain ⟨v',w',G',hrun',hG',_,hown⟩:=c1e (P:=P) (ty:=ty) (f':=f0) (S2:=S2) hG2 hu hi hz hzs hs0 hx2 hm (fun h0=>by
     obtain ⟨b,o,hA,hh⟩:=hc h0
     have:m'=i.size:=by omega
     subst this
     exact ⟨b,o,hA,hh⟩) hS1 hS2 hby hlen
    rw [← hsz] at h6
    exact m4 (b3G (by rw [hv];exact hrun')) (hK _ _ (a7t hG' hown h6))
 ·exact (i5 h4).elim
theorem a7u {E:Env}:∀ (l:List (Nat × Operand)) (z0:Nat) (σ:St) (G:GG),Rel E σ a w G→(∀ y,z0≤y→G (park y)=noG)→∀ {L rs σ' L'},(a6a l).run φ σ L=some (rs,σ',L') →
  ∃ G',Rel E σ' a w G'∧rs.length=l.length∧(∀ (i:Nat) idx row,rs[i]?=some (idx,row)→∃ x,l[i]?=some (idx,x)∧i7 E G' σ'.V w (fun k q=>G' (park (z0+i)) (0::k::q)) row (a.eval x))∧u7 G σ.V G' σ'.V∧∀ y,y < z0→G' (park y)=G (park y)
 | [],z0,σ,G,h,_,L,rs,σ',L',hrun=>by
  have:=g7 (φ:=φ) hrun
  simp only [Prod.mk.injEq] at this
  obtain ⟨rfl,rfl,rfl⟩:=this
  exact ⟨G,h,rfl,fun i idx row hi=>by simp at hi,u7.refl _ _,fun _ _=>rfl⟩
 | (i0,x)::l,z0,σ,G,h,hp,L,rs,σ',L',hrun=>by
  obtain ⟨row,σ1,L1,h1,h2⟩:=run_bind hrun
  obtain ⟨G1,hG1,hr1,hgood1,hpk1⟩:=a5m h z0 (hp z0 (Nat.le_refl _)) h1
  obtain ⟨rs',σ2,L2,h3,h4⟩:=run_bind h2
  obtain ⟨G2,hG2,hl,hrs,hgood2,hpk2⟩:=a7u l (z0+1) σ1 G1 hG1 (fun y hy=>by rw [hpk1 y (by omega)];exact hp y (by omega)) h3
  have:=g7 h4
  simp only [Prod.mk.injEq] at this
  obtain ⟨rfl,rfl,rfl⟩:=this
  refine ⟨G2,hG2,by simp [hl],fun i idx row' hi=>?_,hgood1.trans hgood2,fun y hy=>by rw [hpk2 y (by omega),hpk1 y (by omega)]⟩
  cases i with
  | zero =>
   simp only [List.getElem?_cons_zero,Option.some.injEq,Prod.mk.injEq] at hi
   obtain ⟨rfl,rfl⟩:=hi
   refine ⟨x,rfl,?_⟩
   have e:z0+0=z0:=rfl
   rw [e]
   have:=hpk2 z0 (by omega)
   rw [this]
   exact hr1.good hgood2
  | succ i =>
   obtain ⟨x',hx',hr'⟩:=hrs i idx row' (by simpa using hi)
   refine ⟨x',by simpa using hx',?_⟩
   have e:z0+(i+1)=z0+1+i:=by omega
   rw [e]
   exact hr'
/-- A part's cells, d7m into a row of cells. -/
theorem c7J (off:Nat):∀ (l:List Value) (s:Nat) (cells:Array Value),off+s+l.length≤cells.size →
  ((l.zipIdx s).foldl (fun cs (x:Value × Nat)=>cs.setIfInBounds (off+x.2) x.1) cells).size=cells.size ∧
  ∀ i,((l.zipIdx s).foldl (fun cs (x:Value × Nat)=>cs.setIfInBounds (off+x.2) x.1) cells)[i]?=if off+s≤i∧i < off+s+l.length then l[i - (off+s)]? else cells[i]?
 | [],s,cells,_=>⟨rfl,fun i=>by rw [if_neg (by simp only [List.length_nil];omega)];rfl⟩
 | v::l,s,cells,hl=>by
  simp only [List.length_cons] at hl
  obtain ⟨h1,h2⟩:=c7J off l (s+1) (cells.setIfInBounds (off+s) v) (by simp;omega)
  refine ⟨by simpa [List.zipIdx_cons] using h1,fun i=>?_⟩
  simp only [List.zipIdx_cons,List.foldl_cons]
  rw [h2]
  simp only [List.length_cons]
  by_cases e1:i=off+s
  ·subst e1
   rw [if_neg (by omega),if_pos (by omega),Array.getElem?_setIfInBounds_self_of_lt (by omega)]
   simp
  ·by_cases e2:off+(s+1)≤i∧i < off+(s+1)+l.length
   ·rw [if_pos e2,if_pos (by omega)]
    obtain ⟨d,hd⟩:∃ d,i=off+(s+1)+d:=⟨i - (off+(s+1)),by omega⟩
    subst hd
    have e3:off+(s+1)+d - (off+(s+1))=d:=by omega
    have e4:off+(s+1)+d - (off+s)=d+1:=by omega
    rw [e3,e4]
    simp
   ·rw [if_neg e2,if_neg (by omega),Array.getElem?_setIfInBounds_ne (by omega)]
theorem d7m (off:Nat) (vs cells:Array Value) (hl:off+vs.size≤cells.size) :
  (vs.zipIdx.foldl (fun cs (x:Value × Nat)=>cs.setIfInBounds (off+x.2) x.1) cells).size=cells.size ∧
  ∀ i,(vs.zipIdx.foldl (fun cs (x:Value × Nat)=>cs.setIfInBounds (off+x.2) x.1) cells)[i]?=if off≤i∧i < off+vs.size then vs[i - off]? else cells[i]?:=by
 rw [← Array.foldl_toList,Array.toList_zipIdx]
 have:=c7J off vs.toList 0 cells (by simpa using hl)
 simpa using this
/-- The parts of a slice's literal, in order, all of them. -/
theorem c7K (m:Nat):∀ (l:List (Nat × Value)) (s:Nat) (cells:Array Value),(∀ (i:Nat) idx v,l[i]?=some (idx,v)→idx=s+i∧v.cells.size=m)→(s+l.length)*m≤cells.size →
  ∃ cs,Instr.fill (fun i=>some (i*m,m)) cells l=some cs∧cs.size=cells.size∧(∀ j,j < s→∀ k,k < m→cs[j*m+k]?=cells[j*m+k]?) ∧
   ∀ (j:Nat) idx v,l[j]?=some (idx,v)→∀ k,k < m→cs[(s+j)*m+k]?=v.cells[k]?
 | [],s,cells,_,_=>⟨cells,rfl,rfl,fun _ _ _ _=>rfl,fun j idx v hj=>by simp at hj⟩
 | (i0,v)::l,s,cells,h,hsz=>by
  obtain ⟨e0,hv⟩:=h 0 i0 v rfl
  have e0:i0=s:=by simpa using e0
  subst e0
  have hfit:i0*m+v.cells.size≤cells.size:=by
   simp only [List.length_cons] at hsz
   have:(i0+1)*m≤(i0+(l.length+1))*m:=Nat.mul_le_mul_right m (by omega)
   rw [Nat.add_mul] at this
   omega
  obtain ⟨l1,l2⟩:=d7m (i0*m) v.cells cells hfit
  obtain ⟨cs,h1,h2,h3,h4⟩:=c7K m l (i0+1) (v.cells.zipIdx.foldl (fun cs (x:Value × Nat)=>cs.setIfInBounds (i0*m+x.2) x.1) cells) (fun i idx v' hi=>by
   obtain ⟨a1,a2⟩:=h (i+1) idx v' (by simpa using hi)
   exact ⟨by omega,a2⟩) (by
   rw [l1]
   simp only [List.length_cons] at hsz
   have:i0+1+l.length=i0+(l.length+1):=by omega
   rw [this];exact hsz)
  refine ⟨cs,?_,by rw [h2,l1],fun j hj k hk=>?_,fun j idx v' hj k hk=>?_⟩
  ·simp only [Instr.fill]
   rw [if_neg (by
    simp only [bne_iff_ne,ne_eq,Bool.or_eq_true,decide_eq_true_eq]
    omega)]
   exact h1
  ·rw [h3 j (by omega) k hk,l2,if_neg]
   have:=a4J hj hk
   omega
  ·cases j with
   | zero =>
    simp only [List.getElem?_cons_zero,Option.some.injEq,Prod.mk.injEq] at hj
    obtain ⟨_,rfl⟩:=hj
    rw [Nat.add_zero,h3 i0 (by omega) k hk,l2,if_pos (by omega)]
    congr 1
    omega
   | succ j =>
    have:=h4 j idx v' (by simpa using hj) k hk
    have e:i0+(j+1)=i0+1+j:=by omega
    rw [e]
    exact this
theorem b8O {m:Nat}:∀ {l:List (Nat × Row)} {s:Nat} {rs:List (List T)},b5l m s l=some rs→rs.length=l.length∧∀ (i:Nat) idx row,l[i]?=some (idx,row)→idx=s+i∧row.2.length=m∧∃ ts,b6A row.2=some ts∧rs[i]?=some ts
 | [],s,rs,h=>by
  simp only [b5l,Option.some.injEq] at h
  subst h
  exact ⟨rfl,fun i idx row hi=>by simp at hi⟩
 | (j,r)::l,s,rs,h=>by
  simp only [b5l] at h
  cases hb:(Nat.beq s j&&Nat.beq r.2.length m) with
  | false=>simp [hb] at h
  | true =>
   simp only [hb,cond_true] at h
   simp only [Bool.and_eq_true] at hb
   have e1:=j8 hb.1
   have e2:=j8 hb.2
   split at h
   ·rename_i ts rs' h1 h2
    simp only [Option.some.injEq] at h
    subst h
    obtain ⟨h3,h4⟩:=b8O h2
    refine ⟨by simp [h3],fun i idx row hi=>?_⟩
    cases i with
    | zero =>
     simp only [List.getElem?_cons_zero,Option.some.injEq,Prod.mk.injEq] at hi
     obtain ⟨rfl,rfl⟩:=hi
     exact ⟨by omega,e2,ts,h1,rfl⟩
    | succ i =>
     obtain ⟨a1,a2,ts',a3,a4⟩:=h4 i idx row (by simpa using hi)
     exact ⟨by omega,a2,ts',a3,by simpa using a4⟩
   ·simp at h
theorem c3Y:∀ {cs:List C} {ts:List T},b6A cs=some ts→ts.length=cs.length∧∀ (k:Nat) c,cs[k]?=some c→∃ t,ts[k]?=some t∧b1x c=some t
 | [],ts,h=>by
  simp only [b6A,Option.some.injEq] at h
  subst h
  exact ⟨rfl,fun k c hk=>by simp at hk⟩
 | c::cs,ts,h=>by
  simp only [b6A] at h
  split at h
  ·rename_i t ts' h1 h2
   simp only [Option.some.injEq] at h
   subst h
   obtain ⟨h3,h4⟩:=c3Y h2
   refine ⟨by simp [h3],fun k c' hk=>?_⟩
   cases k with
   | zero=>simp at hk;subst hk;exact ⟨t,rfl,h1⟩
   | succ k=>simpa using h4 k c' (by simpa using hk)
  ·simp at h
theorem c8w {dst t len ps ty pos after guard}:O7 P φ ⟨dst,.buildSlice t len ps,ty,pos,after,guard⟩ (opP P ⟨dst,.buildSlice t len ps,ty,pos,after,guard⟩):=by
 intro E σ a w L σ' L' ⟨G,hG,hp⟩ hrun K Q hK
 simp only [opP] at hrun
 split at hrun
 case h_2=>exact (i5 hrun).elim
 rename_i e he
 have hu:=a2j he
 cases hb:(Nat.ble (len*m7 P e) 16777216&&(Nat.beq ps.size len&&a2Z P e)) with
 | false=>rw [hb] at hrun;exact (i5 (φ:=φ) (α:=Unit) hrun).elim
 | true =>
  rw [hb] at hrun
  simp only [Bool.and_eq_true] at hb
  have hb1:=Nat.le_of_ble_eq_true hb.1
  have hb2:=j8 hb.2.1
  obtain ⟨z,inf,hi,his,hs0,_,hzv,hzs,_⟩:=b4x (P:=P) (w:=w) hb.2.2
  obtain ⟨rs,σ1,L1,h1,h2⟩:=run_bind (φ:=φ) (p:=a6a ps.toList) hrun
  obtain ⟨G1,hG1,hl,hrs,_,_⟩:=a7u ps.toList 1 σ G hG (fun y _=>hp y) h1
  split at h2
  case h_2=>exact (i5 h2).elim
  rename_i rows hrows
  obtain ⟨hl2,hlit⟩:=b8O hrows
  have hlen:rs.length=len:=by rw [hl,← hb2];simp
  have hcell:∀ (i:Nat) idx row,rs[i]?=some (idx,row)→∃ x,ps.toList[i]?=some (idx,x)∧idx=i∧RelCs E G1 σ1.V w (fun k q=>G1 (park (1+i)) (0::k::q)) row.2 (a.eval x).cells∧(a.eval x).cells.size=m7 P e∧∃ ts,b6A row.2=some ts∧rows[i]?=some ts:=by
   intro i idx row hi'
   obtain ⟨x,hx,hr⟩:=hrs i idx row hi'
   obtain ⟨a1,a2,ts,a3,a4⟩:=hlit i idx row hi'
   have hne:row.2≠[]:=fun e0=>by rw [e0] at a2;exact hs0 (by simpa using a2.symm)
   have hc:=hr.cells hne
   exact ⟨x,hx,by omega,hc,by rw [hc.1,a2],ts,a3,a4⟩
  obtain ⟨cs,hf1,hf2,_,hf4⟩:=c7K (m7 P e) (ps.toList.map fun x=>(x.1,a.eval x.2)) 0 ((Array.range (len*m7 P e)).map (fun i=>(if len*m7 P e=0 then #[] else z.cells)[i % (if len*m7 P e=0 then #[] else z.cells).size]!)) (fun i idx v hi'=>by
   simp only [List.getElem?_map] at hi'
   obtain ⟨y,hy,hy'⟩:=Option.map_eq_some_iff.1 hi'
   simp only [Prod.mk.injEq] at hy'
   obtain ⟨rfl,rfl⟩:=hy'
   have hlt:i < rs.length:=by rw [hl];exact (List.getElem?_eq_some_iff.1 hy).1
   obtain ⟨x,hx,e1,_,hsz,_⟩:=hcell i rs[i].1 rs[i].2 (List.getElem?_eq_getElem hlt)
   rw [hy] at hx
   obtain rfl:=Option.some.inj hx
   exact ⟨by omega,hsz⟩) (by simp [hb2])
  have hnew:=hG1.newArr (e:=e) (cs:=cs) (m:=m7 P e) (n:=len) (cap:=len) (f:=i4 rows) (fun q=>match q with | j::k::q=>G1 (park (1+j)) (0::k::q) | _=>none) (by omega) (by rw [hf2];simp) (Nat.le_refl _) (fun j k q ad c h=>⟨_,_,c,h⟩) (fun j k q j' k' q' ad c ad' c' h h' hbb=>by
   obtain ⟨e1,e2⟩:=hG1.inj _ _ _ _ _ _ _ _ h h' hbb
   have:=O5 e1
   simp only [List.cons.injEq,true_and] at e2
   exact ⟨by omega,e2.1,e2.2⟩) (fun j hj k hk=>by
   have hlt:j < rs.length:=by omega
   obtain ⟨x,hx,e1,hc,hsz,ts,hts,hr⟩:=hcell j rs[j].1 rs[j].2 (List.getElem?_eq_getElem hlt)
   obtain ⟨ht1,ht2⟩:=c3Y hts
   have hk':k < rs[j].2.2.length:=by rw [← hc.1,hsz];exact hk
   obtain ⟨u,hu',hrel⟩:=hc.2 k _ (List.getElem?_eq_getElem hk')
   obtain ⟨tt,htt,hown⟩:=ht2 k _ (List.getElem?_eq_getElem hk')
   refine ⟨u,?_,?_⟩
   ·have:=hf4 j rs[j].1 (a.eval x) (by simp only [List.getElem?_map,hx,Option.map_some]) k hk
    rw [Nat.zero_add] at this
    rw [this];exact hu'
   ·have:i4 rows j k=tt:=by simp [i4,List.getD_eq_getElem?_getD,hr,htt]
    rw [this]
    exact b6H hrel hown)
  refine m4 (v:=.slice (some ⟨w.heap.size,0,none⟩) len len) (w':=w.alloc (.cells cs e)) ?_ (hK _ _ (a7t hnew.1 hnew.2 h2))
  have hbig:¬ (16777216 < len*inf.size):=by rw [his];omega
  have hzr:(zeroValue e).run P w=.ok z w:=by simp [zeroValue,typeInfo,hi,hzv]
  by_cases h0:len*m7 P e=0
  ·have h0':len*inf.size=0:=by rw [his];exact h0
   have e0:∀ g:Nat→Value,(Array.range 0).map g=#[]:=fun g=>by simp
   rw [if_pos h0,h0,e0,← his] at hf1
   simp only [execOp,Instr.buildSlice,Sem.run_bind,l6 hu,Result.andThen_ok,O8 hi,gt_iff_lt,Nat.reducePow,if_neg hbig,if_pos h0',Sem.run_pure,h0',e0,Array.toList_map,hf1,newRow,run_newObj]
   rfl
  ·have h0':¬ len*inf.size=0:=by rw [his];exact h0
   rw [if_neg h0] at hf1
   rw [← his] at hf1
   simp [execOp,Instr.buildSlice,l6 hu,O8 hi,hbig,h0',newRow,hzr,hf1]
theorem b7v:∀ (l:List C) (off:Nat) (cs:List C),off+l.length≤cs.length→(a5n off l cs).length=cs.length∧∀ K,(a5n off l cs)[K]?=if off≤K∧K < off+l.length then l[K - off]? else cs[K]?
 | [],off,cs,_=>⟨rfl,fun K=>by rw [if_neg (by simp only [List.length_nil];omega)];rfl⟩
 | c::l,off,cs,hl=>by
  simp only [List.length_cons] at hl
  obtain ⟨h1,h2⟩:=b7v l (off+1) (cs.set off c) (by simp;omega)
  refine ⟨by simpa [a5n] using h1,fun K=>?_⟩
  simp only [a5n,List.length_cons]
  rw [h2]
  by_cases e1:K=off
  ·subst e1
   rw [if_neg (by omega),if_pos (by omega),List.getElem?_set_self (by omega)]
   simp
  ·by_cases e2:off+1≤K∧K < off+1+l.length
   ·rw [if_pos e2,if_pos (by omega)]
    obtain ⟨d,rfl⟩:∃ d,K=off+1+d:=⟨K - (off+1),by omega⟩
    have e3:off+1+d - (off+1)=d:=by omega
    have e4:off+1+d - off=d+1:=by omega
    rw [e3,e4]
    simp
   ·rw [if_neg e2,if_neg (by omega),List.getElem?_set_ne (by omega)]
/-- The ghosts of a composite value's cells: each comes from one part in flight. -/
structure GamOk (G:GG) (z:Nat) (γ:Nat→Gh):Prop where
 src:∀ K q y,γ K q=some y→∃ z' k',z' < z∧G (park z') (0::k'::q)=some y
 inj:∀ K q K' q' ad c ad' c',γ K q=some (ad,c)→γ K' q'=some (ad',c')→ad.block=ad'.block→K=K'∧q=q'
theorem c1f {E σ G} (h:Rel E σ a w G) {V:Nat→Ver} {t:TypeId} {fs:Array Field} (hu:P.underlying t=some (.struct fs)) (place:Nat→Option (Nat × Nat)) (hpl:∀ (i:Nat) f,fs[i]?=some f→place i=some (f.offset,m7 P f.type)) :
  ∀ (l:List (Nat × Row)) (vl:List (Nat × Value)) (z:Nat) (γ:Nat→Gh) (cs:List C) (zs:Array Value) (cs':List C),RelCs E G V w γ cs zs→GamOk G z γ→vl.length=l.length →
  (∀ (i:Nat) idx row,l[i]?=some (idx,row)→∃ v,vl[i]?=some (idx,v)∧i7 E G V w (fun k q=>G (park (z+i)) (0::k::q)) row v)→b1y P t l cs=some cs' →
  ∃ zs' z' γ',Instr.fill place zs vl=some zs'∧RelCs E G V w γ' cs' zs'∧GamOk G z' γ'
 | [],vl,z,γ,cs,zs,cs',hc,hγ,hl,_,hb=>by
  simp only [b1y,Option.some.injEq] at hb
  subst hb
  have:vl=[]:=List.eq_nil_of_length_eq_zero hl
  subst this
  exact ⟨zs,z,γ,rfl,hc,hγ⟩
 | (i0,r)::l,vl,z,γ,cs,zs,cs',hc,hγ,hl,hp,hb=>by
  match vl,hl,hp with
  | (j0,v)::vl,hl,hp =>
  obtain ⟨v',hv',hr⟩:=hp 0 i0 r rfl
  simp only [List.getElem?_cons_zero,Option.some.injEq,Prod.mk.injEq] at hv'
  obtain ⟨rfl,rfl⟩:=hv'
  simp only [b1y] at hb
  split at hb
  case h_2=>simp at hb
  rename_i off ft hf
  obtain ⟨fs',f,hu',hfk,ho,hft⟩:=b1D hf
  rw [hu] at hu'
  simp only [Option.some.injEq,TypeDesc.struct.injEq] at hu'
  subst hu'
  cases hg:(!Nat.beq (m7 P ft) 0&&(Nat.beq r.2.length (m7 P ft)&&Nat.ble (off+m7 P ft) cs.length)) with
  | false=>simp [hg] at hb
  | true =>
   simp only [hg,cond_true] at hb
   simp only [Bool.and_eq_true,Bool.not_eq_true'] at hg
   have g1:=j8 hg.2.1
   have g2:=Nat.le_of_ble_eq_true hg.2.2
   have hcs:=hr.cells (fun e=>by
    rw [e] at g1
    have h0:=hg.1
    rw [← g1] at h0
    simp [E5] at h0)
   have hvs:v.cells.size=m7 P ft:=by rw [hcs.1,g1]
   obtain ⟨s1,s2⟩:=b7v r.2 off cs (by omega)
   obtain ⟨l1,l2⟩:=d7m off v.cells zs (by rw [hvs,hc.1];exact g2)
   have hpl':place j0=some (off,m7 P ft):=by rw [hpl j0 f hfk,ho,hft]
   obtain ⟨zs',z',γ',h1,h2,h3⟩:=c1f h hu place hpl l vl (z+1) (fun K=>if off≤K∧K < off+m7 P ft then fun q=>G (park z) (0::(K - off)::q) else γ K) (a5n off r.2 cs)
    (v.cells.zipIdx.foldl (fun cs (x:Value × Nat)=>cs.setIfInBounds (off+x.2) x.1) zs) cs' ⟨by rw [l1,s1];exact hc.1,fun K c hK=>by
     rw [s2] at hK
     rw [g1] at hK
     rw [l2,hvs]
     by_cases e:off≤K∧K < off+m7 P ft
     ·rw [if_pos e] at hK ⊢
      obtain ⟨u,hu1,hu2⟩:=hcs.2 _ _ hK
      refine ⟨u,hu1,?_⟩
      simp only [if_pos e]
      exact hu2
     ·rw [if_neg e] at hK ⊢
      obtain ⟨u,hu1,hu2⟩:=hc.2 _ _ hK
      refine ⟨u,hu1,?_⟩
      simp only [if_neg e]
      exact hu2⟩ ⟨fun K q y hy=>by
     split at hy
     ·exact ⟨z,_,by omega,hy⟩
     ·obtain ⟨z1,k1,hlt,hh⟩:=hγ.src _ _ _ hy
      exact ⟨z1,k1,by omega,hh⟩,fun K q K' q' ad c ad' c' hy hy' hbb=>by
     split at hy <;> split at hy'
     ·have:=(h.inj _ _ _ _ _ _ _ _ hy hy' hbb).2
      simp only [List.cons.injEq,true_and] at this
      exact ⟨by omega,this.2⟩
     ·obtain ⟨z1,k1,hlt,hh⟩:=hγ.src _ _ _ hy'
      have:=O5 (h.inj _ _ _ _ _ _ _ _ hy hh hbb).1
      omega
     ·obtain ⟨z1,k1,hlt,hh⟩:=hγ.src _ _ _ hy
      have:=O5 (h.inj _ _ _ _ _ _ _ _ hh hy' hbb).1
      omega
     ·exact hγ.inj _ _ _ _ _ _ _ _ hy hy' hbb⟩ (by simpa using hl) (fun i idx row hi=>by
     obtain ⟨v',hv',hr'⟩:=hp (i+1) idx row (by simpa using hi)
     refine ⟨v',by simpa using hv',?_⟩
     have e:z+1+i=z+(i+1):=by omega
     rw [e];exact hr') hb
   refine ⟨zs',z',γ',?_,h2,h3⟩
   simp only [Instr.fill,hpl']
   rw [if_neg (by
    have:=hc.1
    simp only [Bool.or_eq_true,decide_eq_true_eq]
    omega)]
   exact h1
theorem b7w {α β:Type} (g:α→Sem β) (g':α→β):∀ (l:List α),(∀ x∈l,(g x).run P w=.ok (g' x) w)→(l.mapM g).run P w=.ok (l.map g') w
 | [],_=>by simp
 | x::l,h=>by
  have h1:=h x (by simp)
  have h2:=b7w g g' l fun y hy=>h y (by simp [hy])
  simp [h1,h2]
theorem c5H {α β:Type} (g:α→Sem β) (g':α→β) (xs:Array α) (h:∀ x∈xs.toList,(g x).run P w=.ok (g' x) w):(xs.mapM g).run P w=.ok (xs.map g') w:=by
 rw [Array.mapM_eq_mapM_toList,Sem.run_map,b7w g g' xs.toList h]
 simp only [Result.andThen_ok]
 congr 1
 apply Array.ext'
 simp
theorem e3M {dst t ps ty pos after guard}:O7 P φ ⟨dst,.build t ps,ty,pos,after,guard⟩ (opP P ⟨dst,.build t ps,ty,pos,after,guard⟩):=by
 intro E σ a w L σ' L' ⟨G,hG,hp⟩ hrun K Q hK
 simp only [opP] at hrun
 split at hrun
 case h_2=>exact (i5 hrun).elim
 rename_i fs hu
 cases hb:(fs.toList.all (fun f=>a2X P f.type)&&((o8 P t).1&&!Nat.beq (o8 P t).2.length 0)) with
 | false=>rw [hb] at hrun;exact (i5 (φ:=φ) (α:=Unit) hrun).elim
 | true =>
  rw [hb] at hrun
  simp only [Bool.and_eq_true,Bool.not_eq_true'] at hb
  obtain ⟨hok,hag,hl0⟩:=hb
  have hne:(o8 P t).2≠[]:=fun e=>by rw [e] at hl0;simp [E5] at hl0
  obtain ⟨rs,σ1,L1,h1,h2⟩:=run_bind (φ:=φ) (p:=a6a ps.toList) hrun
  obtain ⟨G1,hG1,hl,hrs,_,_⟩:=a7u ps.toList 1 σ G hG (fun y _=>hp y) h1
  split at h2
  case h_2=>exact (i5 h2).elim
  rename_i cs' hcs'
  obtain ⟨z,hzr,hz⟩:=b1E (P:=P) (w:=w) hne
  have hrel:=(hz E G1 σ1.V).cells hne
  obtain ⟨zs',z',γ',hf,hr,hγ⟩:=c1f (P:=P) hG1 hu (fun i=>(fs.map fun f=>(f.offset,m7 P f.type))[i]?) (fun i f hf=>by simp [hf]) rs (ps.toList.map fun x=>(x.1,a.eval x.2)) 1 (fun _=>noG) (o8 P t).2 z.cells cs' hrel
   ⟨fun K q y h=>by simp [noG] at h,fun K q K' q' ad c ad' c' h=>by simp [noG] at h⟩ (by simp [hl]) (fun i idx row hi=>by
    obtain ⟨x,hx,hr⟩:=hrs i idx row hi
    exact ⟨a.eval x,by simp only [List.getElem?_map,hx,Option.map_some],hr⟩) hcs'
  have hR:=hG1.refly (fun p=>match p with | 0::K::q=>γ' K q | _=>none) (fun p ad c hh=>by
   split at hh
   ·obtain ⟨z1,k1,_,hg⟩:=hγ.src _ _ _ hh
    exact .inl ⟨z1,_,c,hg⟩
   ·simp at hh) (fun p p' ad c ad' c' hh hh' hbb=>by
   split at hh
   ·split at hh'
    ·obtain ⟨rfl,rfl⟩:=hγ.inj _ _ _ _ _ _ _ _ hh hh' hbb
     rfl
    ·simp at hh'
   ·simp at hh)
  refine m4 (v:=.agg zs') (w':=w) ?_ (hK _ _ (D5 hR 0 (rows:=[(true,cs')]) ?_ h2))
  ·have hm:=c5H (P:=P) (w:=w) (fun f:Field=>(do pure (f.offset,← sizeOf f.type):Sem (Nat × Nat))) (fun f=>(f.offset,m7 P f.type)) fs (fun f hf=>by
    have:=List.all_eq_true.1 hok f hf
    obtain ⟨d,i,_,hi,hs⟩:=b8E this
    simp [O8 hi,hs])
   simp only [execOp,Instr.build,Sem.run_bind,hzr,Result.andThen_ok,l6 hu,hm,Array.toList_map,hf,Sem.run_pure]
  ·rw [d0h]
   exact ⟨zs',rfl,hr.good (b6I _ _ _)⟩
end
end Go.Mach
namespace Go.Mach
def A4 (w:World) (D:Nat→Prop):Env:=⟨w,D,0,fun _=>undef,fun _=>none⟩
def gg0:GG:=fun _=>noG
def vv0:Nat→Ver:=fun _=>z0
/-- A cell ags it is handed to a callee (D: the blocks that are lent). -/
def f0O (w:World) (D:Nat→Prop) (c:C) (v:Value):Prop:=∀ G V,l4 (A4 w D) G V w noG c v
def a7v (w:World) (D:Nat→Prop) (row:Row) (v:Value):Prop:=∀ G V,i7 (A4 w D) G V w (fun _=>noG) row v
section
variable {P:Program} {φ:Sems} {a:Act} {w:World} {D:Nat→Prop}
theorem c7L:∀ (p:Path) {t u:T} (q:Path),t.at p=some u→t.at (p ++ q)=u.at q
 | [],t,u,q,h=>by rw [b5s] at h;cases h;rfl
 | [j],t,u,q,h=>by cases t <;> simp [T.at] at h
 | j::k::p,t,u,q,h=>by
  cases t with
  | arr m n f =>
   simp only [List.cons_append,T.at] at h ⊢
   cases hb:(Nat.blt j n&&Nat.blt k m) with
   | false=>simp [hb] at h
   | true=>simp only [hb,cond_true] at h ⊢;exact c7L p q h
  | _=>simp [T.at] at h
theorem b0z {rows:List Row} {p:Path} {t:T} (q:Path) (h:rowsAt rows p=some t):rowsAt rows (p ++ q)=t.at q:=by
 obtain ⟨i,k,q0,ag,cs,t0,rfl,h1,h2,h3⟩:=W0 h
 simp only [List.cons_append,rowsAt,h1,h2]
 exact c7L q0 q h3
theorem d9d {N:Nat→Prop} {t:T} {g:Gh} {v:Value} (h:RelOwn w t g v) (hN:∀ q m n f ad c,t.at q=some (.arr m n f)→g q=some (ad,c)→ad.block < w.heap.size→N ad.block):V3 w N t v:=by
 induction t generalizing g v with
 | int | bool | str | hole=>exact h
 | lent m n=>exact RelOwn.one h
 | arr m n f ih =>
  rcases h with ⟨_,rfl,rfl⟩ | ⟨b,off,cap,cs,e,hg,rfl,hn,hw,_,hh⟩
  ·exact ⟨_,_,rfl,Nat.le_refl _,fun h=>by omega⟩
  ·refine ⟨_,_,rfl,hn.1,fun _=>⟨b,off,rfl,hN [] m n f _ _ rfl hg (Array.getElem?_eq_some_iff.1 hw).1,fun j hj k hk=>?_⟩⟩
   obtain ⟨u,hu,hr⟩:=hh j hj k hk
   refine ⟨u,by rw [O9 hw];exact hu,ih j k hr fun q m' n' f' ad c hq hg'=>hN (j::k::q) m' n' f' ad c ?_ hg'⟩
   have hb:(Nat.blt j n&&Nat.blt k m)=true:=by simp only [Bool.and_eq_true,Nat.blt_eq];exact ⟨hj,hk⟩
   simp only [T.at,hb,cond_true]
   exact hq
/-- What is lent lies nowhere where the state reads. -/
structure Clear (E:Env) (σ:St) (G:GG) (D:Nat→Prop):Prop where
 out:∀ b,D b→E.w0.heap.size≤b∨E.D b
 live:∀ r p m n f ad c,notPark r→rowsAt (σ.get r).rows p=some (.arr m n f)→G r p=some (ad,c)→¬ D ad.block
 boxes:∀ t ad c,(σ.get (box t)).rows≠[]→G (box t) []=some (ad,c)→¬ D ad.block
theorem d7n {E σ G} (h:Rel E σ a w G) (hD:Clear E σ G D) {t:T} {v:Value} (hr:V3 E.w0 E.N t v):V3 w (A4 w D).N t v:=by
 induction t generalizing v with
 | int | bool | str | hole | lent=>exact hr
 | arr m n f ih =>
  obtain ⟨A,cap,rfl,hn,hh⟩:=hr
  refine ⟨A,cap,rfl,hn,fun h0=>?_⟩
  obtain ⟨b,off,hA,hN,hc⟩:=hh h0
  refine ⟨b,off,hA,⟨Nat.lt_of_lt_of_le hN.1 h.size,fun hd=>?_⟩,fun j hj k hk=>?_⟩
  ·rcases hD.out b hd with h1 | h1
   ·exact absurd hN.1 (by omega)
   ·exact hN.2 h1
  ·obtain ⟨u,hu,hrr⟩:=hc j hj k hk
   exact ⟨u,h.cell0 hN hu,ih j k hrr⟩
theorem b8P {E σ G} (hD:Clear E σ G D) {r:Nat} {p:Path} (hnp:notPark r) {t:T} (hat:rowsAt (σ.get r).rows p=some t) {v:Value} (h:RelOwn w t (fun q=>G r (p ++ q)) v):V3 w (A4 w D).N t v :=
 d9d h fun q m n f ad c hq hg hlt=>⟨hlt,hD.live r (p ++ q) m n f ad c hnp (by rw [b0z q hat];exact hq) hg⟩
theorem e3N {t:T} {v:Value} (h:RelOwn w t noG v):V3 w (A4 w D).N t v:=d9d h fun q m n f ad c _ hg=>by cases hg
theorem e7F {E σ G} (h:Rel E σ a w G) (hD:Clear E σ G D) {r:Nat} {i k:Nat} (hnp:notPark r) {ag cs} (hrow:(σ.get r).rows[i]?=some (ag,cs)) {c:C} (hc:cs[k]?=some c) {v:Value} (hr:l4 E G σ.V w (fun q=>G r (i::k::q)) c v):V3 w (A4 w D).N (imT c) v:=by
 cases c with
 | tr o t=>cases o with
  | true=>exact b8P (p:=[i,k]) hD hnp (by simp only [rowsAt,hrow,hc];exact b5s t) hr
  | false=>exact d7n h hD hr
 | _=>exact l4.one hr
theorem c1g {E σ G} (h:Rel E σ a w G) (hD:Clear E σ G D) {x:Pt} {v:Value} (hr:R1 E G σ.V x v) {x' L σ' L'} (hrun:(b3w x).run φ σ L=some (x',σ',L')):σ'=σ∧∀ G V,R1 (A4 w D) G V x' v:=by
 cases x with
 | pim m g =>
  have:=g7 (φ:=φ) hrun
  simp only [Prod.mk.injEq] at this
  obtain ⟨rfl,rfl,rfl⟩:=this
  obtain ⟨b,o,rfl,hh⟩:=hr
  refine ⟨rfl,fun _ _=>⟨b,o,rfl,fun i hi=>?_⟩⟩
  obtain ⟨hN,u,hu,hrr⟩:=hh i hi
  refine ⟨⟨Nat.lt_of_lt_of_le hN.1 h.size,fun hd=>?_⟩,u,h.cell0 hN hu,d7n h hD hrr⟩
  rcases hD.out b hd with h1 | h1
  ·exact absurd hN.1 (by omega)
  ·exact hN.2 h1
 | ptr r ver p m j k =>
  obtain ⟨b,o,rfl,⟨hnp,hbox⟩,_,hval⟩:=hr
  simp only [b3w,O6] at hrun
  obtain ⟨hb,hrun1⟩:=j9 hrun
  obtain ⟨off,cap,hg,ho⟩:=hval (j8 hb)
  match p,hbox,hg,hrun1 with
  | [],hbox,hg,hrun1 =>
   obtain ⟨t',rfl | rfl | rfl⟩:=a3b hnp
   ·have:=hbox rfl;unfold slot at this;omega
   rotate_left
   ·have:=hbox rfl;unfold ext at this;omega
   simp only at hrun1
   split at hrun1
   ·rename_i ag cs hrow
    obtain ⟨hb2,hrun2⟩:=j9 hrun1
    have hm:=j8 hb2
    have:=g7 hrun2
    simp only [Prod.mk.injEq] at this
    obtain ⟨rfl,rfl,rfl⟩:=this
    have hrow0:=hrow
    rcases h.box' t' with h0 | ⟨row',b',cs',e',hrows,hg',hw,hc⟩
    ·rw [h0] at hrow;simp at hrow
    ·have hnd:¬ D b:=hD.boxes t' _ _ (by rw [hrows];simp) hg
     rw [hrows] at hrow
     rw [hg] at hg'
     simp only [Option.some.injEq,Prod.mk.injEq,Addr.mk.injEq,and_true] at hg'
     obtain ⟨⟨rfl,rfl⟩,rfl⟩:=hg'
     cases j with
     | succ j=>simp at hrow
     | zero =>
      simp only [List.getElem?_cons_zero,Option.some.injEq] at hrow
      subst hrow
      refine ⟨rfl,fun _ _=>⟨b,o,rfl,fun i hi=>⟨⟨(Array.getElem?_eq_some_iff.1 hw).1,hnd⟩,?_⟩⟩⟩
      have hlt:k+i < cs.length:=by omega
      obtain ⟨u,hu,hrel⟩:=hc.2 _ _ (List.getElem?_eq_getElem (l:=cs) hlt)
      refine ⟨u,by show w.cell? _=_;rw [O9 hw,← hu];congr 1;omega,?_⟩
      simp only [e7t,List.getElem?_eq_getElem hlt]
      exact e7F h hD hnp hrow0 (List.getElem?_eq_getElem hlt) hrel
   ·exact (i5 hrun1).elim
  | x::p',hbox,hg,hrun1 =>
   simp only at hrun1
   ·obtain ⟨m',n',f,hat,_,hrun1a⟩:=W4 hrun1
    replace hrun1a:=j9 hrun1a
    obtain ⟨hb2,hrun2⟩:=hrun1a
    simp only [Bool.and_eq_true,Nat.blt_eq] at hb2
    have hm:=j8 hb2.1
    subst hm
    have:=g7 hrun2
    simp only [Prod.mk.injEq] at this
    obtain ⟨rfl,rfl,rfl⟩:=this
    have hnd:¬ D b:=hD.live _ _ _ _ _ _ _ hnp hat hg
    obtain ⟨b',off',cap',cs,e,hg',_,hw,_,hh⟩:=h.nested hnp hat (by omega)
    rw [hg] at hg'
    simp only [Option.some.injEq,Prod.mk.injEq,Addr.mk.injEq,and_true] at hg'
    obtain ⟨⟨rfl,rfl⟩,rfl⟩:=hg'
    refine ⟨rfl,fun _ _=>⟨b,o,rfl,fun i hi=>⟨⟨(Array.getElem?_eq_some_iff.1 hw).1,hnd⟩,?_⟩⟩⟩
    obtain ⟨u,hu,hrel⟩:=hh j hb2.2 (k+i) (by omega)
    refine ⟨u,by show w.cell? _=_;rw [O9 hw,← hu];congr 1;omega,?_⟩
    refine b8P (w:=w) (p:=x::p' ++ [j,k+i]) hD hnp ?_ (by simpa using hrel)
    rw [b0z _ hat]
    have hb:(Nat.blt j n'&&Nat.blt (k+i) m)=true:=by simp only [Bool.and_eq_true,Nat.blt_eq];exact ⟨hb2.2,by omega⟩
    simp only [T.at,hb,cond_true]
theorem b1F {E σ G} (h:Rel E σ a w G) (hD:Clear E σ G D):∀ (l:List Pt) (vs:Array Value) (i0:Nat),(∀ (i:Nat) x,l[i]?=some x→∃ u,vs[i0+i]?=some u∧R1 E G σ.V x u)→∀ {l' L σ' L'},(a0a b3w l).run φ σ L=some (l',σ',L') →
  σ'=σ∧l'.length=l.length∧∀ (i:Nat) x,l'[i]?=some x→∃ u,vs[i0+i]?=some u∧∀ G V,R1 (A4 w D) G V x u
 | [],vs,i0,_,l',L,σ',L',hrun=>by
  have:=g7 (φ:=φ) hrun
  simp only [Prod.mk.injEq] at this
  obtain ⟨rfl,rfl,rfl⟩:=this
  exact ⟨rfl,rfl,fun i x hi=>by simp at hi⟩
 | x::l,vs,i0,hp,l',L,σ',L',hrun=>by
  obtain ⟨x',σ1,L1,h1,h2⟩:=run_bind hrun
  obtain ⟨u,hu,hr⟩:=hp 0 x rfl
  obtain ⟨rfl,hr'⟩:=c1g h hD hr h1
  obtain ⟨l1,σ2,L2,h3,h4⟩:=run_bind h2
  obtain ⟨rfl,hl,hh⟩:=b1F h hD l vs (i0+1) (fun i y hi=>by
   obtain ⟨u',hu',hr''⟩:=hp (i+1) y (by simpa using hi)
   exact ⟨u',by rw [← hu'];congr 1;omega,hr''⟩) h3
  have:=g7 h4
  simp only [Prod.mk.injEq] at this
  obtain ⟨rfl,rfl,rfl⟩:=this
  refine ⟨rfl,by simp [hl],fun i y hi=>?_⟩
  cases i with
  | zero=>simp at hi;subst hi;exact ⟨u,hu,hr'⟩
  | succ i =>
   obtain ⟨u',hu',hr''⟩:=hh i y (by simpa using hi)
   exact ⟨u',by rw [← hu'];congr 1;omega,hr''⟩
theorem d7o {E σ G} (h:Rel E σ a w G) (hD:Clear E σ G D) {c:C} {v:Value} (hr:l4 E G σ.V w noG c v) {c' L σ' L'} (hrun:(b8u c).run φ σ L=some (c',σ',L')):σ'=σ∧f0O w D c' v:=by
 cases c with
 | tr o t =>
  have:=g7 (φ:=φ) hrun
  simp only [Prod.mk.injEq] at this
  obtain ⟨rfl,rfl,rfl⟩:=this
  cases o with
  | true=>exact ⟨rfl,fun _ _=>e3N hr⟩
  | false=>exact ⟨rfl,fun _ _=>d7n h hD hr⟩
 | ref r ver p m s n =>
  simp only [b8u,O6] at hrun
  ·obtain ⟨m0,n0,f0,hat,_,hrun1⟩:=W4 hrun
   replace hrun1:=j9 hrun1
   obtain ⟨hb,hrun2⟩:=hrun1
   simp only [Bool.and_eq_true] at hb
   obtain ⟨hb1,hb2,hb3⟩:=hb
   have e1:=j8 hb1
   have e2:=j8 hb2
   have e3:=Nat.le_of_ble_eq_true hb3
   subst e2
   have:=g7 hrun2
   simp only [Prod.mk.injEq] at this
   obtain ⟨rfl,rfl,rfl⟩:=this
   obtain ⟨A,cap,hv,hn,⟨hnp,_⟩,_,hval⟩:=hr
   refine ⟨rfl,fun _ _=>⟨A,cap,hv,hn,fun h0=>?_⟩⟩
   obtain ⟨b,off,cap',cs,e,hg,_,hw,_,hh⟩:=h.nested hnp hat (by omega)
   rcases hval e1 with ⟨hg0,_⟩ | ⟨b',off',c',hg',_,hA⟩
   ·rw [hg] at hg0;cases hg0
   ·rw [hg] at hg'
    simp only [Option.some.injEq,Prod.mk.injEq,Addr.mk.injEq,and_true] at hg'
    obtain ⟨⟨rfl,rfl⟩,rfl⟩:=hg'
    refine ⟨b,off+s*m,hA h0,⟨(Array.getElem?_eq_some_iff.1 hw).1,hD.live _ _ _ _ _ _ _ hnp hat hg⟩,fun j hj k hk=>?_⟩
    obtain ⟨u,hu,hrr⟩:=hh (s+j) (by omega) k hk
    refine ⟨u,?_,?_⟩
    ·show w.cell? _=_
     rw [O9 hw,← hu]
     congr 1
     rw [Nat.add_mul];omega
    ·rw [b1h k hj]
     refine b8P (w:=w) (p:=p ++ [s+j,k]) hD hnp ?_ (by simpa using hrr)
     rw [b0z _ hat]
     have hb:(Nat.blt (s+j) n0&&Nat.blt k m)=true:=by simp only [Bool.and_eq_true,Nat.blt_eq];exact ⟨by omega,hk⟩
     simp only [T.at,hb,cond_true]
 | pt x =>
  obtain ⟨x',σ1,L1,h1,h2⟩:=run_bind (φ:=φ) (p:=b3w x) hrun
  obtain ⟨rfl,hx⟩:=c1g h hD hr h1
  have:=g7 h2
  simp only [Prod.mk.injEq] at this
  obtain ⟨rfl,rfl,rfl⟩:=this
  exact ⟨rfl,fun G V=>hx G V⟩
 | fn f caps =>
  obtain ⟨caps',σ1,L1,h1,h2⟩:=run_bind (φ:=φ) (p:=a0a b3w caps) hrun
  obtain ⟨vs,hv,hs,hh⟩:=hr
  obtain ⟨rfl,hl,hh'⟩:=b1F h hD caps vs 0 (fun i x hi=>by
   obtain ⟨u,hu,hr⟩:=hh i x hi
   exact ⟨u,by rw [Nat.zero_add];exact hu,hr⟩) h1
  have:=g7 h2
  simp only [Prod.mk.injEq] at this
  obtain ⟨rfl,rfl,rfl⟩:=this
  exact ⟨rfl,fun G V=>⟨vs,hv,by rw [hl];exact hs,fun i x hi=>by
   obtain ⟨u,hu,hr⟩:=hh' i x hi
   exact ⟨u,by rw [Nat.zero_add] at hu;exact hu,hr G V⟩⟩⟩
 | dead=>exact (i5 (φ:=φ) hrun).elim
theorem d0l {E σ G} (h:Rel E σ a w G) (hD:Clear E σ G D) {row:Row} {v:Value} (hr:i7 E G σ.V w (fun _=>noG) row v) {row' L σ' L'} (hrun:(d8M row).run φ σ L=some (row',σ',L')):σ'=σ∧a7v w D row' v:=by
 obtain ⟨cs,σ1,L1,h1,h2⟩:=run_bind hrun
 have:=g7 h2
 simp only [Prod.mk.injEq] at this
 obtain ⟨rfl,rfl,rfl⟩:=this
 have key:∀ (l:List C) (vs:Array Value) (i0:Nat) {l' L σ'' L'},(∀ (i:Nat) x,l[i]?=some x→∃ u,vs[i0+i]?=some u∧l4 E G σ.V w noG x u)→(a0a b8u l).run φ σ L=some (l',σ'',L') →
   σ''=σ∧l'.length=l.length∧∀ (i:Nat) x,l'[i]?=some x→∃ u,vs[i0+i]?=some u∧f0O w D x u:=by
  intro l
  induction l with
  | nil =>
   intro vs i0 l' L σ'' L' _ hrun
   have:=g7 (φ:=φ) hrun
   simp only [Prod.mk.injEq] at this
   obtain ⟨rfl,rfl,rfl⟩:=this
   exact ⟨rfl,rfl,fun i x hi=>by simp at hi⟩
  | cons c l ih =>
   intro vs i0 l' L σ'' L' hp hrun
   obtain ⟨c',σ1,L1,h1,h2⟩:=run_bind hrun
   obtain ⟨u,hu,hr⟩:=hp 0 c rfl
   obtain ⟨rfl,hr'⟩:=d7o h hD hr h1
   obtain ⟨l1,σ2,L2,h3,h4⟩:=run_bind h2
   obtain ⟨rfl,hl,hh⟩:=ih vs (i0+1) (fun i y hi=>by
    obtain ⟨u',hu',hr''⟩:=hp (i+1) y (by simpa using hi)
    exact ⟨u',by rw [← hu'];congr 1;omega,hr''⟩) h3
   have:=g7 h4
   simp only [Prod.mk.injEq] at this
   obtain ⟨rfl,rfl,rfl⟩:=this
   refine ⟨rfl,by simp [hl],fun i y hi=>?_⟩
   cases i with
   | zero=>simp at hi;subst hi;exact ⟨u,hu,hr'⟩
   | succ i =>
    obtain ⟨u',hu',hr''⟩:=hh i y (by simpa using hi)
    exact ⟨u',by rw [← hu'];congr 1;omega,hr''⟩
 obtain ⟨ag,cs0⟩:=row
 by_cases hne:cs0=[]
 ·subst hne
  have:=g7 (φ:=φ) h1
  simp only [Prod.mk.injEq] at this
  obtain ⟨rfl,rfl,rfl⟩:=this
  refine ⟨rfl,?_⟩
  cases ag with
  | false=>exact fun _ _=>hr
  | true=>obtain ⟨vs,e,hc⟩:=hr;exact fun _ _=>⟨vs,e,hc.1,fun k c hk=>by simp at hk⟩
 ·obtain ⟨vs,hc,back⟩:=hr.cs hne
  obtain ⟨rfl,hl,hh⟩:=key cs0 vs 0 (fun i x hi=>by
   obtain ⟨u,hu,hr⟩:=hc.2 i x hi
   exact ⟨u,by rw [Nat.zero_add];exact hu,hr⟩) h1
  exact ⟨rfl,fun G V=>back _ _ _ _ _ _ hl ⟨by rw [hl];exact hc.1,fun k c hk=>by
   obtain ⟨u,hu,hr⟩:=hh k c hk
   exact ⟨u,by rw [Nat.zero_add] at hu;exact hu,hr G V⟩⟩⟩
/-! ### a change under a path -/
end
end Go.Mach
namespace Go.Mach
section
variable {P:Program} {φ:Sems} {a:Act} {w:World} {D:Nat→Prop}
theorem c7M {x u:T}:(p p2:Path)→{t t':T}→p.length=p2.length→p≠p2→t.at p=some x→t.put p2 u=some t'→t'.at p=some x
 | [],[],_,_,_,hne,_,_=>absurd rfl hne
 | [],_::_,_,_,hl,_,_,_=>by simp at hl
 | _::_,[],_,_,hl,_,_,_=>by simp at hl
 | [j],_::_,t,_,_,_,ha,_=>by cases t <;> simp [T.at] at ha
 | _::_::_,[j],_,_,hl,_,_,_=>by simp at hl
 | j::k::p,j2::k2::p2,t,t',hl,hne,ha,hput=>by
  cases t with
  | arr m n f =>
   simp only [T.put] at hput
   simp only [T.at] at ha
   cases hb:(Nat.blt j2 n&&Nat.blt k2 m) with
   | false=>simp [hb] at hput
   | true =>
    cases hb':(Nat.blt j n&&Nat.blt k m) with
    | false=>simp [hb'] at ha
    | true =>
     simp only [hb,cond_true] at hput
     simp only [hb',cond_true] at ha
     cases hp:(f j2 k2).put p2 u with
     | none=>simp [hp] at hput
     | some t1 =>
      simp only [hp,Option.some.injEq] at hput
      subst hput
      simp only [T.at,hb',cond_true]
      by_cases e:j=j2∧k=k2
      ·obtain ⟨rfl,rfl⟩:=e
       simp only [E5,Bool.and_self,cond_true]
       exact c7M p p2 (by simpa using hl) (fun e=>hne (by rw [e])) ha hp
      ·have:(Nat.beq j j2&&Nat.beq k k2)=false:=by
        by_cases e1:j=j2
        ·have e2:k≠k2:=fun e2=>e ⟨e1,e2⟩
         simp [E4 e2]
        ·simp [E4 e1]
       rw [this]
       exact ha
  | _=>simp [T.put] at hput
theorem b7x {rows rows':List Row} {p p2:Path} {x u:T} (hl:p.length=p2.length) (hne:p≠p2) (ha:rowsAt rows p=some x) (hput:C3 rows u p2=some rows'):rowsAt rows' p=some x:=by
 obtain ⟨i2,k2,q2,ag2,cs2,t2,t2',rfl,h1,h2,h3,rfl⟩:=Y6 hput
 obtain ⟨i,k,q,ag,cs,t0,rfl,g1,g2,g3⟩:=W0 ha
 by_cases ei:i=i2
 ·subst ei
  rw [h1] at g1
  simp only [Option.some.injEq,Prod.mk.injEq] at g1
  obtain ⟨rfl,rfl⟩:=g1
  have hi:i < rows.length:=(List.getElem?_eq_some_iff.1 h1).1
  simp only [rowsAt,List.getElem?_set_self hi]
  by_cases ek:k=k2
  ·subst ek
   rw [h2] at g2
   simp only [Option.some.injEq,C.tr.injEq,true_and] at g2
   subst g2
   have hk:k < cs2.length:=(List.getElem?_eq_some_iff.1 h2).1
   rw [List.getElem?_set_self hk]
   exact c7M q q2 (by simpa using hl) (fun e=>hne (by rw [e])) g3 h3
  ·rw [List.getElem?_set_ne (fun e=>ek e.symm),g2]
   exact g3
 ·simp only [rowsAt]
  rw [List.getElem?_set_ne (fun e=>ei e.symm),g1]
  simp only [g2]
  exact g3
theorem a7w {rows rows':List Row} {p:Path} {u:T} (hput:C3 rows u p=some rows'):rowsAt rows' p=some u:=by
 obtain ⟨i,k,q,ag,cs,t0,t1,rfl,h1,h2,h3,rfl⟩:=Y6 hput
 have hi:i < rows.length:=(List.getElem?_eq_some_iff.1 h1).1
 have hk:k < cs.length:=(List.getElem?_eq_some_iff.1 h2).1
 simp only [rowsAt,List.getElem?_set_self hi,List.getElem?_set_self hk]
 have key:∀ (q:Path) {t t':T},t.put q u=some t'→t'.at q=some u:=by
  intro q
  induction q using List.rec with
  | nil =>
   intro t t' h
   have:t'=u:=by cases t <;> simp [T.put] at h <;> exact h.symm
   rw [this];exact b5s u
  | cons j q _=>exact fun {t t'} h=>key2 _ h
 exact key q h3
where
 key2 {u:T}:(q:Path)→{t t':T}→t.put q u=some t'→t'.at q=some u
  | [],t,t',h=>by
   have:t'=u:=by cases t <;> simp [T.put] at h <;> exact h.symm
   rw [this];exact b5s u
  | [j],t,t',h=>by cases t <;> simp [T.put] at h
  | j::k::q,t,t',h=>by
   cases t with
   | arr m n f =>
    simp only [T.put] at h
    cases hb:(Nat.blt j n&&Nat.blt k m) with
    | false=>simp [hb] at h
    | true =>
     simp only [hb,cond_true] at h
     cases hp:(f j k).put q u with
     | none=>simp [hp] at h
     | some t1 =>
      simp only [hp,Option.some.injEq] at h
      subst h
      simp only [T.at,hb,cond_true,E5,Bool.and_self]
      exact key2 q hp
   | _=>simp [T.put] at h
/-- The ghost behind a loan: what lay under (r, p), not at it, lies under (y, d). -/
def ldG (G:GG) (r:Nat) (p:Path) (y:Nat) (d:Path):GG:=fun r' q =>
 if r'=y∧d <+: q∧d≠q then G r (p ++ q.drop d.length) else if r'=r∧p <+: q∧p≠q then none else G r' q
theorem c2v {G:GG} {r p y d r' q z} (h:ldG G r p y d r' q=some z) :
  (r'=y∧(∃ q',q'≠[]∧q=d ++ q'∧G r (p ++ q')=some z))∨(¬ (r'=r∧p <+: q∧p≠q)∧G r' q=some z):=by
 unfold ldG at h
 split at h
 ·rename_i h2
  obtain ⟨h3,⟨q',rfl⟩,h4⟩:=h2
  exact .inl ⟨h3,q',fun e=>h4 (by simp [e]),rfl,by simpa using h⟩
 ·split at h
  ·simp at h
  ·exact .inr ⟨‹_›,h⟩
theorem c0E {G:GG} (h:a1M G) (r p y d):a1M (ldG G r p y d):=by
 intro r1 q1 r2 q2 ad c ad' c' h1 h2 hb
 rcases c2v h1 with ⟨e1,p1,ne1,rfl,g1⟩ | ⟨n1,g1⟩ <;> rcases c2v h2 with ⟨e2,p2,ne2,rfl,g2⟩ | ⟨n2,g2⟩
 ·have:=(h _ _ _ _ _ _ _ _ g1 g2 hb).2
  rw [List.append_cancel_left_eq] at this
  exact ⟨e1.trans e2.symm,by rw [this]⟩
 ·obtain ⟨e,ep⟩:=h _ _ _ _ _ _ _ _ g1 g2 hb
  exact absurd ⟨e.symm,ep ▸ List.prefix_append _ _,fun e'=>ne1 (by rw [← ep] at e';simpa using e'.symm)⟩ n2
 ·obtain ⟨e,ep⟩:=h _ _ _ _ _ _ _ _ g1 g2 hb
  exact absurd ⟨e,ep ▸ List.prefix_append _ _,fun e'=>ne2 (by rw [ep] at e';simpa using e'.symm)⟩ n1
 ·exact h _ _ _ _ _ _ _ _ g1 g2 hb
theorem c0F {E w} {G:GG} (h:a3a E w G) (r p y d):a3a E w (ldG G r p y d):=by
 intro r1 q1 ad c h1
 rcases c2v h1 with ⟨e1,p1,_,rfl,g1⟩ | ⟨n1,g1⟩
 ·exact h _ _ _ _ g1
 ·exact h _ _ _ _ g1
theorem c3Z (G:GG) (r p y d) {q} (hq:q≠[]):ldG G r p y d y (d ++ q)=G r (p ++ q):=by
 unfold ldG
 rw [if_pos ⟨rfl,List.prefix_append _ _,fun e=>hq (by simpa using e.symm)⟩]
 simp
theorem C4 {G:GG} {r p y d r' q} (h1:¬ (r'=y∧d <+: q∧d≠q)) (h2:¬ (r'=r∧p <+: q∧p≠q)):ldG G r p y d r' q=G r' q:=by
 unfold ldG
 rw [if_neg h1,if_neg h2]
/-- A root's tree is told anew at a path; its header stays. -/
theorem Rel.rootD {E σ G} (h:Rel E σ a w G) {r y:Nat} {p d:Path} (hnp:notPark r) (hpar:∀ t,r=t→notPark t) {u0 u:T} {rows':List Row} (hat:rowsAt (σ.get r).rows p=some u0) (hput:C3 (σ.get r).rows u p=some rows') (hhas:σ.has r=true)
  {G':GG} (hi:a1M G') (hr:a3a E w G') (hG:∀ r',notPark r'→r'≠r→G' r'=G r') (hq:∀ q,¬ (p <+: q∧p≠q)→G' r q=G r q)
  (key:∀ x,RelOwn w u0 (fun q=>G r (p ++ q)) x→RelOwn w u (fun q=>G' r (p ++ q)) x) (hy:y=y) (hd:d=d) :
  Rel E (σ.set r ⟨E0 p (σ.get r).ver,rows'⟩) a w G'∧u7 G σ.V G' (σ.set r ⟨E0 p (σ.get r).ver,rows'⟩).V:=by
 have hq':∀ q,¬ p <+: q→G' r q=G r q:=fun q hn=>hq q fun e=>hn e.1
 have hpne:p≠[]:=by rintro rfl;simp [rowsAt] at hat
 refine h.rootV r hnp rows' _ hi hr hG (fun q=>⟨b1A _ _ _,fun hb=>hq q (b1B hb)⟩) (fun t e=>?_) (fun t e=>⟨?_,fun ht=>?_⟩) (fun t e=>?_) hhas
 ·subst e
  exact (h.slots t).chg hat hput hq' key
 ·subst e
  exact (h.box' t).chg hat hput hq' key
 ·subst e
  rw [hq [] (by simp)]
  exact h.xbox t ht
 ·subst e
  exact (h.exts t).chg hat hput hq' key
theorem d3G {w:World} {m n:Nat} {f:Nat→Nat→T} {g g':Gh} {x:Value} (h:RelOwn w (.arr m n f) g x) (hg:g' []=g []):RelOwn w (.lent m n) g' x:=by
 rcases h with ⟨h1,h2,h3⟩ | ⟨b,off,cap,cs,e,h1,h2,h3,_⟩
 ·exact .inl ⟨hg.trans h1,h2,h3⟩
 ·exact .inr ⟨b,off,cap,hg.trans h1,h2,h3⟩
theorem d3H {w:World} {m n:Nat} {f:Nat→Nat→T} {g g':Gh} {x v:Value} (h:RelOwn w (.lent m n) g x) (h':RelOwn w (.arr m n f) g' v) (hg:g' []=g []):RelOwn w (.arr m n f) g' x:=by
 rcases h with ⟨h1,h2,rfl⟩ | ⟨b,off,cap,h1,rfl,h3⟩ <;> rcases h' with ⟨k1,k2,rfl⟩ | ⟨b',off',cap',cs,e,k1,rfl,k3⟩
 ·exact .inl ⟨k1,k2,rfl⟩
 ·rw [hg,h1] at k1;cases k1
 ·rw [hg,h1] at k1;cases k1
 ·have k1':=k1
  rw [hg,h1] at k1'
  cases k1'
  exact .inr ⟨_,_,_,cs,e,k1,rfl,k3⟩
/-- A cell is lent. -/
theorem d3I {E σ G} (h:Rel E σ a w G) (φ:Sems) (y k:Nat) {c:C} {v:Value} (hc:l4 E G σ.V w noG c v) {L c' σ' L'} (hrun:(c3N c).run φ σ L=some (c',σ',L')) :
  ∃ G' t,c'=.tr true t∧Rel E σ' a w G'∧u7 G σ.V G' σ'.V∧(∀ z q,¬ (z=y∧[0,k] <+: q∧[0,k]≠q)→G' (park z) q=G (park z) q) ∧
   ((σ'=σ∧G'=G∧(∀ r ver p m s n,c≠.ref r ver p m s n)∧RelOwn w t noG v) ∨
    ∃ r ver p m n f rows',c=.ref r ver p m 0 n∧t=.arr m n f∧notPark r∧p≠[]∧rowsAt (σ.get r).rows p=some (.arr m n f)∧C3 (σ.get r).rows (.lent m n) p=some rows' ∧
     σ'=σ.set r ⟨E0 p (σ.get r).ver,rows'⟩∧σ.has r=true∧G'=ldG G r p (park y) [0,k]∧RelOwn w (.arr m n f) (fun q=>G r (p ++ q)) v):=by
 have triv:(∀ r ver p m s n,c≠.ref r ver p m s n)→(b4r c).run φ σ L=some (c',σ',L')→∃ G' t,c'=.tr true t∧Rel E σ' a w G'∧u7 G σ.V G' σ'.V∧(∀ z q,¬ (z=y∧[0,k] <+: q∧[0,k]≠q)→G' (park z) q=G (park z) q) ∧
   ((σ'=σ∧G'=G∧(∀ r ver p m s n,c≠.ref r ver p m s n)∧RelOwn w t noG v) ∨
    ∃ r ver p m n f rows',c=.ref r ver p m 0 n∧t=.arr m n f∧notPark r∧p≠[]∧rowsAt (σ.get r).rows p=some (.arr m n f)∧C3 (σ.get r).rows (.lent m n) p=some rows' ∧
     σ'=σ.set r ⟨E0 p (σ.get r).ver,rows'⟩∧σ.has r=true∧G'=ldG G r p (park y) [0,k]∧RelOwn w (.arr m n f) (fun q=>G r (p ++ q)) v):=by
  intro hne hr
  unfold b4r at hr
  split at hr
  ·rename_i t ht
   have:=g7 hr
   simp only [Prod.mk.injEq] at this
   obtain ⟨rfl,rfl,rfl⟩:=this
   exact ⟨G,t,rfl,h,u7.refl _ _,fun _ _ _=>rfl,.inl ⟨rfl,rfl,hne,b6H hc ht⟩⟩
  ·exact (i5 hr).elim
 cases c with
 | tr o t=>exact triv (by simp) hrun
 | pt x=>exact triv (by simp) hrun
 | fn f caps=>exact triv (by simp) hrun
 | dead=>exact triv (by simp) hrun
 | ref r ver p m s n =>
  obtain ⟨A,cap,rfl,hn,⟨hnp,hpne⟩,hver,hval⟩:=hc
  simp only [c3N,O6] at hrun
  obtain ⟨m',n',f,hat,hputs,hrun1⟩:=W4 hrun
  obtain ⟨hb,hrun2⟩:=j9 hrun1
  simp only [Bool.and_eq_true] at hb
  obtain ⟨hb1,hb2,hb3,hb4⟩:=hb
  have e1:=j8 hb1;have e2:=j8 hb2;have e3:=j8 hb3;have e4:=j8 hb4
  subst e2;subst e3;subst e4
  have hput:=hputs (.lent m n)
  generalize n8 (σ.get r).rows (.lent m n) p=rows' at hrun2 hput
  obtain ⟨hhas,hrun3⟩:=a4I hrun2
  have:=g7 hrun3
  simp only [Prod.mk.injEq] at this
  obtain ⟨rfl,rfl,rfl⟩:=this
  have hown:RelOwn w (.arr m n f) (fun q=>G r (p ++ q)) (.slice A n cap):=by
   have:∃ v',RelOwn w (.arr m n f) (fun q=>G r (p ++ q)) v':=by
    obtain ⟨t,rfl | rfl | rfl⟩:=a3b hnp
    ·exact (h.slots t).at hat
    ·exact (h.box' t).at hat
    ·exact (h.exts t).at hat
   obtain ⟨v',hv'⟩:=this
   have:v'=.slice A n cap:=by
    rcases hv' with ⟨g0,_,rfl⟩ | ⟨b,off,cap',cs,e,g0,rfl,_⟩ <;> simp only [List.append_nil] at g0
    ·rcases hval e1 with ⟨_,rfl,_,rfl,rfl⟩ | ⟨b,off,c,g1,_⟩
     ·rfl
     ·rw [g0] at g1;cases g1
    ·rcases hval e1 with ⟨g1,_⟩ | ⟨b',off',c,g1,h3,_⟩
     ·rw [g0] at g1;cases g1
     ·rw [g0] at g1
      obtain ⟨rfl,rfl⟩:=h3 rfl
      cases g1
      rfl
   rw [← this]
   exact hv'
  obtain ⟨h1,h2⟩:=h.rootD (y:=0) (d:=[]) hnp (fun t e=>e ▸ hnp) hat hput hhas (G':=ldG G r p (park y) [0,k]) (c0E h.inj _ _ _ _) (c0F h.rng _ _ _ _)
   (fun r' h1 h2=>funext fun q=>C4 (fun e=>l5 h1 y e.1) (fun e=>h2 e.1)) (fun q hq=>C4 (fun e=>l5 hnp y e.1) (fun e=>hq e.2))
   (fun x hx=>d3G hx (by
    rw [List.append_nil]
    exact C4 (fun e=>l5 hnp y e.1) (fun e=>e.2.2 rfl))) rfl rfl
  exact ⟨_,_,rfl,h1,h2,fun z q hq=>C4 (fun e=>hq ⟨O5 e.1,e.2⟩) (fun e=>l5 hnp z e.1.symm),.inr ⟨r,ver,p,m,n,f,rows',rfl,rfl,hnp,hpne,hat,hput,rfl,hhas,rfl,hown⟩⟩
def V5 (G:GG) (y k:Nat) (c:C):Gh:=fun q=>if q=[] then (match c with | .ref r _ p _ _ _=>G r p | _=>none) else G (park y) (0::k::q)
theorem b6J {r:Nat} {p p':Path} (h:b5n (r,p) (r,p')=true):p.length=p'.length:=by
 simp only [b5n,E5,Bool.not_true,Bool.false_or,Bool.and_eq_true,c7E] at h
 omega
theorem b3H {E} (φ:Sems) (y:Nat) (vs:Array Value):∀ (l:List C) (k0:Nat) (σ:St) (G:GG),Rel E σ a w G →
  (∀ (j:Nat) c,l[j]?=some c→∃ u,vs[k0+j]?=some u∧l4 E G σ.V w noG c u)→(∀ k,k0≤k→∀ q,G (park y) (0::k::q)=none)→a3M (l.flatMap a0Y)=true →
  ∀ {L l' σ' L'},(a0a c3N l).run φ σ L=some (l',σ',L') →
  ∃ G',Rel E σ' a w G'∧l'.length=l.length∧u7 G σ.V G' σ'.V∧(∀ z q,¬ (z=y∧∃ k,k0≤k∧[0,k] <+: q)→G' (park z) q=G (park z) q) ∧
   (∀ (j:Nat) c',l'[j]?=some c'→∃ u t c,l[j]?=some c∧vs[k0+j]?=some u∧c'=.tr true t∧RelOwn w t (V5 G' y (k0+j) c) u∧G' (park y) [0,k0+j]=none ∧
    (∀ r ver p m s n,c=.ref r ver p m s n→notPark r∧p≠[]∧rowsAt (σ'.get r).rows p=some (.lent m n)∧∃ f,t=.arr m n f)) ∧
   (∀ r1 p1 m1 n1,notPark r1→rowsAt (σ.get r1).rows p1=some (.lent m1 n1)→(∀ x∈l.flatMap a0Y,b5n (r1,p1) x=true) →
    rowsAt (σ'.get r1).rows p1=some (.lent m1 n1)∧G' r1 p1=G r1 p1∧∀ (j:Nat) r ver p m s n,l[j]?=some (.ref r ver p m s n)→¬ (r=r1∧p=p1)) ∧
   (∀ (j j':Nat) r ver p m s n ver' m' s' n',l[j]?=some (.ref r ver p m s n)→l[j']?=some (.ref r ver' p m' s' n')→j=j') ∧
   (∀ r1,notPark r1→(∀ x∈l.flatMap a0Y,x.1≠r1)→σ'.get r1=σ.get r1∧G' r1=G r1)
 | [],k0,σ,G,h,_,hp,_,L,l',σ',L',hrun=>by
  have:=g7 hrun
  simp only [Prod.mk.injEq] at this
  obtain ⟨rfl,rfl,rfl⟩:=this
  exact ⟨G,h,rfl,u7.refl _ _,fun _ _ _=>rfl,fun j c hj=>by simp at hj,fun r1 p1 m1 n1 _ h1 _=>⟨h1,rfl,fun j r ver p m s n hj=>by simp at hj⟩,fun j j' r ver p m s n ver' m' s' n' hj=>by simp at hj,fun _ _ _=>⟨rfl,rfl⟩⟩
 | c::l,k0,σ,G,h,hc,hp,hpo,L,l',σ',L',hrun=>by
  obtain ⟨c',σ1,L1,h1,h2⟩:=run_bind hrun
  obtain ⟨l1,σ2,L2,h3,h4⟩:=run_bind h2
  have:=g7 h4
  simp only [Prod.mk.injEq] at this
  obtain ⟨rfl,rfl,rfl⟩:=this
  obtain ⟨u0,hu0,hr0⟩:=hc 0 c rfl
  rw [Nat.add_zero] at hu0
  have hpo':a3M (l.flatMap a0Y)=true∧(∀ r ver p m s n,c=.ref r ver p m s n→∀ x∈l.flatMap a0Y,b5n (r,p) x=true):=by
   cases c with
   | ref r ver p m s n =>
    simp only [List.flatMap_cons,a0Y,List.singleton_append,a3M,Bool.and_eq_true,List.all_eq_true] at hpo
    refine ⟨hpo.2,fun r' ver' p' m' s' n' e x hx=>?_⟩
    cases e
    exact hpo.1 x hx
   | _=>exact ⟨hpo,fun r ver p m s n e=>by cases e⟩
  obtain ⟨G1,t,rfl,hG1,hgood1,hpk1,hcase⟩:=d3I h φ y k0 hr0 h1
  have hp1:∀ k,k0+1≤k→∀ q,G1 (park y) (0::k::q)=none:=fun k hk q=>by
   rw [hpk1 y _ (by
    rintro ⟨_,hpre,_⟩
    rw [List.cons_prefix_cons,List.cons_prefix_cons] at hpre
    omega)]
   exact hp k (by omega) q
  obtain ⟨G2,hG2,hl2,hgood2,hpk2,hcs2,hfr2,hdis2,hsame2⟩:=b3H φ y vs l (k0+1) σ1 G1 hG1
   (fun j c hj=>by
    obtain ⟨u,hu,hr⟩:=hc (j+1) c (by simpa using hj)
    exact ⟨u,by rw [← hu];congr 1;omega,hr.good hgood1⟩) hp1 hpo'.1 h3
  have hpk3:∀ q,G2 (park y) (0::k0::q)=G1 (park y) (0::k0::q):=fun q=>hpk2 y _ (by
   rintro ⟨_,k,hk,hpre⟩
   rw [List.cons_prefix_cons,List.cons_prefix_cons] at hpre
   omega)
  have hp0:G1 (park y) [0,k0]=none:=by
   rw [hpk1 y _ (fun e=>e.2.2 rfl)]
   exact hp k0 (Nat.le_refl _) []
  refine ⟨G2,hG2,by simp [hl2],hgood1.trans hgood2,fun z q hz=>?_,fun j c' hj=>?_,fun r1 p1 m1 n1 hnp1 hat1 hok=>?_,fun j j' r ver p m s n ver' m' s' n' hj hj'=>?_,fun r1 hnp1 hne1=>?_⟩
  ·rw [hpk2 z q (fun ⟨e,k,hk,hpre⟩=>hz ⟨e,k,by omega,hpre⟩)]
   exact hpk1 z q fun ⟨e,hpre,_⟩=>hz ⟨e,k0,Nat.le_refl _,hpre⟩
  ·cases j with
   | zero =>
    simp only [List.getElem?_cons_zero,Option.some.injEq] at hj
    subst hj
    refine ⟨u0,t,c,rfl,hu0,rfl,?_,by rw [Nat.add_zero,hpk3];exact hp0,fun r ver p m s n e=>?_⟩
    ·rw [Nat.add_zero]
     rcases hcase with ⟨_,e,hne,hrel⟩ | ⟨r,ver,p,m,n,f,rows',rfl,rfl,hnp,hpne,hat,hput,rfl,hhas,rfl,hrel⟩
     ·have:V5 G2 y k0 c=noG:=by
       funext q
       unfold V5
       split
       ·split
        ·rename_i hh;exact absurd rfl (hne _ _ _ _ _ _)
        ·rfl
       ·rw [hpk3,e];exact hp k0 (Nat.le_refl _) q
      rw [this]
      exact hrel
     ·have hh:=hfr2 r p m n hnp (by rw [n9,if_pos ⟨rfl,hhas⟩];exact a7w hput) (hpo'.2 _ _ _ _ _ _ rfl)
      have:V5 G2 y k0 (.ref r ver p m 0 n)=fun q=>G r (p ++ q):=by
       funext q
       unfold V5
       split
       ·rename_i e
        subst e
        rw [List.append_nil]
        exact hh.2.1.trans (C4 (fun e=>l5 hnp y e.1) (fun e=>e.2.2 rfl))
       ·rename_i e
        rw [hpk3]
        exact c3Z G r p (park y) [0,k0] e
      rw [this]
      exact hrel
    ·rcases hcase with ⟨_,_,hne,_⟩ | ⟨r',ver',p',m',n',f,rows',rfl,rfl,hnp,hpne,hat,hput,rfl,hhas,rfl,hrel⟩
     ·exact absurd e (hne _ _ _ _ _ _)
     ·cases e
      exact ⟨hnp,hpne,(hfr2 r p m n hnp (by rw [n9,if_pos ⟨rfl,hhas⟩];exact a7w hput) (hpo'.2 _ _ _ _ _ _ rfl)).1,f,rfl⟩
   | succ j =>
    obtain ⟨u,t',c0,h5,h6,h7,h8,h9,h10⟩:=hcs2 j c' (by simpa using hj)
    have e:k0+1+j=k0+(j+1):=by omega
    rw [e] at h6 h8 h9
    exact ⟨u,t',c0,by simpa using h5,h6,h7,h8,h9,h10⟩
  ·have hok1:∀ x∈l.flatMap a0Y,b5n (r1,p1) x=true:=fun x hx=>hok x (by simp only [List.flatMap_cons,List.mem_append];exact .inr hx)
   have hmid:rowsAt (σ1.get r1).rows p1=some (.lent m1 n1)∧G1 r1 p1=G r1 p1∧∀ r ver p m s n,c=.ref r ver p m s n→¬ (r=r1∧p=p1):=by
    rcases hcase with ⟨rfl,rfl,hne,_⟩ | ⟨r,ver,p,m,n,f,rows',rfl,rfl,hnp,hpne,hat,hput,rfl,hhas,rfl,hrel⟩
    ·exact ⟨hat1,rfl,fun r ver p m s n e=>absurd e (hne _ _ _ _ _ _)⟩
    ·have hok0:=hok (r,p) (by simp [a0Y])
     by_cases er:r=r1
     ·subst er
      have hlen:=b6J hok0
      have hne:p1≠p:=fun e=>by rw [e,hat] at hat1;cases hat1
      refine ⟨by rw [n9,if_pos ⟨rfl,hhas⟩];exact b7x hlen hne hat1 hput,C4 (fun e=>l5 hnp1 y e.1) (fun e=>?_),fun r' ver' p' m' s' n' e=>?_⟩
      ·have:=e.2.1.eq_of_length hlen.symm
       exact e.2.2 this
      ·cases e
       exact fun e=>hne e.2.symm
     ·refine ⟨by rw [n9,if_neg fun e=>er e.1];exact hat1,C4 (fun e=>l5 hnp1 y e.1) (fun e=>er e.1.symm),fun r' ver' p' m' s' n' e=>?_⟩
      cases e
      exact fun e=>er e.1
   obtain ⟨g1,g2,g3⟩:=hfr2 r1 p1 m1 n1 hnp1 hmid.1 hok1
   refine ⟨g1,g2.trans hmid.2.1,fun j r ver p m s n hj=>?_⟩
   cases j with
   | zero=>exact hmid.2.2 r ver p m s n (by simpa using hj)
   | succ j=>exact g3 j r ver p m s n (by simpa using hj)
  ·have hzero:∀ (j:Nat) ver m s n ver' m' s' n',c=.ref r ver p m s n→l[j]?=some (.ref r ver' p m' s' n')→False:=fun j ver m s n ver' m' s' n' e hj2=>by
    rcases hcase with ⟨_,_,hne,_⟩ | ⟨r2,ver2,p2,m2,n2,f,rows',e2,rfl,hnp,hpne,hat,hput,rfl,hhas,rfl,hrel⟩
    ·exact absurd e (hne _ _ _ _ _ _)
    ·rw [e2] at e
     cases e
     exact (hfr2 r p _ _ hnp (by rw [n9,if_pos ⟨rfl,hhas⟩];exact a7w hput) (hpo'.2 _ _ _ _ _ _ e2)).2.2 j r ver' p m' s' n' hj2 ⟨rfl,rfl⟩
   cases j with
   | zero =>
    cases j' with
    | zero=>rfl
    | succ j'=>exact (hzero j' _ _ _ _ _ _ _ _ (by simpa using hj) (by simpa using hj')).elim
   | succ j =>
    cases j' with
    | zero=>exact (hzero j _ _ _ _ _ _ _ _ (by simpa using hj') (by simpa using hj)).elim
    | succ j'=>rw [hdis2 j j' r ver p m s n ver' m' s' n' (by simpa using hj) (by simpa using hj')]
  ·obtain ⟨g1,g2⟩:=hsame2 r1 hnp1 fun x hx=>hne1 x (by simp only [List.flatMap_cons,List.mem_append];exact .inr hx)
   rcases hcase with ⟨rfl,rfl,hne,_⟩ | ⟨r,ver,p,m,n,f,rows',rfl,rfl,hnp,hpne,hat,hput,rfl,hhas,rfl,hrel⟩
   ·exact ⟨g1,g2⟩
   ·have er:r≠r1:=hne1 (r,p) (by simp [a0Y])
    refine ⟨g1.trans (by rw [n9,if_neg fun e=>er e.1]),g2.trans (funext fun q=>C4 (fun e=>l5 hnp1 y e.1) (fun e=>er e.1.symm))⟩
end
end Go.Mach
namespace Go.Mach
/-- The blocks of the arguments that are lent or handed over. -/
def Dof (γ:Nat→Gh) (b:Nat):Prop:=∃ i p ad c,γ i p=some (ad,c)∧ad.block=b
/-- All cells own what they hold. -/
def U9 (cs:List C):Prop:=∀ (k:Nat) c,cs[k]?=some c→∃ t,c=C.tr true t
def e6S (w:World) (γ:Gh) (cs:List C) (u:Value):Prop:=∃ b vs e,u=.pointer (some ⟨b,0,none⟩)∧γ []=some (⟨b,0,none⟩,1)∧w.heap[b]?=some (.cells vs e (0,0))∧∀ E G V,RelCs E G V w (fun k q=>γ (0::k::q)) cs vs
/-- What an argument is told as. -/
def ArgOk (w:World) (D:Nat→Prop) (γ:Gh) (x:Arg) (u:Value):Prop :=
 if x.1=1∨x.1=3 then U9 x.2.2∧∀ E G V,i7 E G V w (fun k q=>γ (0::k::q)) x.2 u
 else if x.1=2 then U9 x.2.2∧e6S w γ x.2.2 u
 else a7v w D x.2 u
structure ArgsX (w:World) (args:List Arg) (vals:Array Value) (γ:Nat→Gh):Prop where
 size:vals.size=args.length
 inj:∀ i p i' p' ad c ad' c',γ i p=some (ad,c)→γ i' p'=some (ad',c')→ad.block=ad'.block→i=i'∧p=p'
 rng:∀ i p ad c,γ i p=some (ad,c)→ad.block < w.heap.size
 arg:∀ (i:Nat) x,args[i]?=some x→∃ u,vals[i]?=some u∧ArgOk w (Dof γ) (γ i) x u
structure GrewD (w w':World) (D:Nat→Prop):Prop where
 os:w'.os=w.os
 tape:w'.tape=w.tape
 output:w'.output=w.output
 size:w.heap.size≤w'.heap.size
 old:∀ b,b < w.heap.size→¬ D b→w'.heap[b]?=w.heap[b]?
/-- What a lent argument holds behind the call. -/
def OutOk (w':World) (δ:Gh) (t:Nat) (o:Row) (u:Value):Prop :=
 if t=1 then U9 o.2∧∀ E G V,i7 E G V w' (fun k q=>δ (0::k::q)) o u
 else if t=2 then U9 o.2∧e6S w' δ o.2 u else True
structure ResX (w w':World) (γ:Nat→Gh) (args:List Arg) (vals:Array Value) (rs outs:List Row) (v:Value) (δ:Nat→Gh):Prop where
 inj:∀ i p i' p' ad c ad' c',δ i p=some (ad,c)→δ i' p'=some (ad',c')→ad.block=ad'.block→i=i'∧p=p'
 rng:∀ i p ad c,δ i p=some (ad,c)→(w.heap.size≤ad.block∨Dof γ ad.block)∧ad.block < w'.heap.size
 res:∀ E G V,RelRows E G V w' (δ 0) rs v
 out:∀ (i:Nat) x,args[i]?=some x→∃ o u,outs[i]?=some o∧vals[i]?=some u∧OutOk w' (δ (i+1)) x.1 o u
/-- The meanings are true. -/
def a1N (P : Program) (f : FuncId) (args : List Arg) (rs outs : List Row) : Prop := (∃ fn, P.funcs[f]? = some fn ∧ fn.body.isSome = true ∧ fn.name ≠ "runtime.NumGoroutine") ∧
 ∀ (w:World) (vals:Array Value) (γ:Nat→Gh),ArgsX w args vals γ→Calls P f vals w fun e w'=>∃ v δ,e=.returned v∧GrewD w w' (Dof γ)∧ResX w w' γ args vals rs outs v δ
def V0 (P:Program) (φ:Sems):Prop:=∀ f args rs outs,(∀ R z K,φ.run f args R z K=K rs outs)→a1N P f args rs outs
section
variable {P:Program} {φ:Sems} {a:Act} {w:World}
/-! ### the world turns where memory is lent -/
theorem RelOwn.extL {w w':World} {t:T} {g:Gh} {v:Value} (h:RelOwn w t g v) (hb:∀ p m n f ad c,t.at p=some (.arr m n f)→g p=some (ad,c)→w'.heap[ad.block]?=w.heap[ad.block]?):RelOwn w' t g v:=by
 induction t generalizing g v with
 | int | bool | str | hole | lent=>exact h
 | arr m n f ih =>
  rcases h with h | ⟨b,off,cap,cs,e,hg,hv,hn,hc,hs,hh⟩
  ·exact .inl h
  ·refine .inr ⟨b,off,cap,cs,e,hg,hv,hn,(hb [] m n f _ _ rfl hg).trans hc,hs,fun j hj k hk=>?_⟩
   obtain ⟨u,hu,hr⟩:=hh j hj k hk
   refine ⟨u,hu,ih j k hr fun p m' n' f' ad c hp hg'=>hb (j::k::p) m' n' f' ad c ?_ hg'⟩
   have hb:(Nat.blt j n&&Nat.blt k m)=true:=by simp only [Bool.and_eq_true,Nat.blt_eq];exact ⟨hj,hk⟩
   simp only [T.at,hb,cond_true]
   exact hp
theorem l4.extL {E G V w w' g c v} (h:l4 E G V w g c v) (hb:∀ t,c=.tr true t→∀ p m n f ad c,t.at p=some (.arr m n f)→g p=some (ad,c)→w'.heap[ad.block]?=w.heap[ad.block]?):l4 E G V w' g c v:=by
 cases c with
 | tr o t=>cases o with
  | true=>exact RelOwn.extL h (hb t rfl)
  | false=>exact h
 | _=>exact h
theorem RelRows.extL {E G V w w' g rows v} (h:RelRows E G V w g rows v) (hb:∀ p m n f ad c,rowsAt rows p=some (.arr m n f)→g p=some (ad,c)→w'.heap[ad.block]?=w.heap[ad.block]?):RelRows E G V w' g rows v:=by
 have hrow:∀ (i:Nat) (row:Row) (x:Value),rows[i]?=some row→i7 E G V w (fun k q=>g (i::k::q)) row x→i7 E G V w' (fun k q=>g (i::k::q)) row x:=by
  intro i row x hi hr
  obtain ⟨ag,cs⟩:=row
  have hcs:∀ (k:Nat) c,cs[k]?=some c→∀ u,l4 E G V w (fun q=>g (i::k::q)) c u→l4 E G V w' (fun q=>g (i::k::q)) c u:=by
   intro k c hk u hu
   refine hu.extL fun t e p m n f ad c' hp hg=>hb (i::k::p) m n f ad c' ?_ hg
   subst e
   simp only [rowsAt,hi,hk]
   exact hp
  cases ag with
  | true =>
   obtain ⟨vs,e,hc⟩:=hr
   exact ⟨vs,e,hc.1,fun k c hk=>let ⟨u,hu,h1⟩:=hc.2 k c hk;⟨u,hu,hcs k c hk u h1⟩⟩
  | false=>match cs,hr,hcs with
   | [],hr,_=>exact hr
   | [c],hr,hcs=>exact hcs 0 c rfl _ hr
 match rows,h,hrow with
 | [],_,_=>trivial
 | [row],hx,hrow=>exact hrow 0 row v rfl hx
 | r::r'::rs,⟨vs,e,hs,hi⟩,hrow=>exact ⟨vs,e,hs,fun i row hr=>let ⟨u,hu,h1⟩:=hi i row hr;⟨u,hu,hrow i row u hr h1⟩⟩
theorem Rel.step {E σ G w'} (h:Rel E σ a w G) {D:Nat→Prop} (hD:Clear E σ G D) (hg:GrewD w w' D) {G':GG} (hnp:∀ r,notPark r→G' r=G r) (hi:a1M G') (hr:a3a E w' G'):Rel E σ a w' G':=by
 have hgood:u7 G (fun r=>(σ.get r).ver) G' (fun r=>(σ.get r).ver):=fun r hr' p=>⟨Nat.le_refl _,fun _=>by rw [hnp r hr']⟩
 have hlive:∀ r p m n f ad c,notPark r→rowsAt (σ.get r).rows p=some (.arr m n f)→G r p=some (ad,c)→w'.heap[ad.block]?=w.heap[ad.block]?:=fun r p m n f ad c h1 h2 h3 =>
  hg.old _ (h.rng _ _ _ _ h3).2 (hD.live _ _ _ _ _ _ _ h1 h2 h3)
 exact {
  nd:=h.nd
  inj:=hi
  rng:=hr
  os:=hg.os.trans h.os
  tape:=hg.tape.trans h.tape
  output:=hg.output.trans h.output
  size:=Nat.le_trans h.size hg.size
  kept:=fun b hb=>by
   refine (hg.old b (Nat.lt_of_lt_of_le hb.1 h.size) fun hd=>?_).trans (h.kept b hb)
   rcases hD.out b hd with h1 | h1
   ·exact absurd hb.1 (by omega)
   ·exact hb.2 h1
  slots:=fun t=>by
   rw [hnp _ (a8e t)]
   exact ((h.slots t).extL fun p m n f ad c h1 h2=>hlive _ _ _ _ _ _ _ (a8e t) h1 h2).good hgood
  boxes:=fun t=>by
   rw [hnp _ (J1 t)]
   rcases h.boxes t with h0 | ⟨row,b,cs,e,h1,h2,h3,h4⟩
   ·exact .inl h0
   ·have hbl:w'.heap[b]?=w.heap[b]?:=hg.old _ (h.rng _ _ _ _ h2).2 (hD.boxes t _ _ (by rw [h1];simp) h2)
    refine .inr ⟨row,b,cs,e,h1,h2,hbl.trans h3,RelCs.good hgood ⟨h4.1,fun k c hk=>?_⟩⟩
    obtain ⟨u,hu,hr⟩:=h4.2 k c hk
    refine ⟨u,hu,hr.extL fun t' e' p m n f ad c' hp hg'=>hlive (box t) (0::k::p) m n f ad c' (J1 t) ?_ hg'⟩
    subst e'
    simp only [rowsAt,h1,List.getElem?_cons_zero,hk]
    exact hp
  exts:=fun t=>by
   rw [hnp _ (b1C t)]
   exact ((h.exts t).extL fun p m n f ad c h1 h2=>hlive _ _ _ _ _ _ _ (b1C t) h1 h2).good hgood
  xbox:=fun t ht=>by rw [hnp _ (J1 t)];exact h.xbox t ht
  defers:=h.defers
  tm:=h.tm
  here:=h.here }
/-! ### giving back -/
theorem d3J {E σ G} (h:Rel E σ a w G) (φ:Sems) (y k:Nat) {r ver:Nat} {p:Path} {m s n:Nat} (hnp:notPark r) (hat:rowsAt (σ.get r).rows p=some (.lent m n)) {t:T} {u:Value} (ho:RelOwn w t (V5 G y k (.ref r ver p m s n)) u)
  {L σ' L'} (hrun:(b3y (.ref r ver p m s n) (.tr true t)).run φ σ L=some ((),σ',L')) :
  ∃ rows' f,t=.arr m n f∧C3 (σ.get r).rows (.arr m n f) p=some rows'∧σ'=σ.set r ⟨E0 p (σ.get r).ver,rows'⟩∧σ.has r=true∧Rel E σ' a w (ldG G (park y) [0,k] r p)∧u7 G σ.V (ldG G (park y) [0,k] r p) σ'.V:=by
 unfold b3y at hrun
 split at hrun
 ·rename_i e1 e2
  cases e1
  cases e2
  rename_i m' n' f
  simp only [O6] at hrun
  obtain ⟨hb,hrun2⟩:=j9 hrun
  simp only [Bool.and_eq_true] at hb
  obtain ⟨hb1,hb2,hb3⟩:=hb
  have e1:=j8 hb1;have e2:=j8 hb2
  subst e1;subst e2
  have hput:=(a7r hb3).2 (.arr m n f)
  generalize n8 (σ.get r).rows (.arr m n f) p=rows' at hrun2 hput
  obtain ⟨hhas,hrun3⟩:=a4I hrun2
  have:=g7 hrun3
  simp only [Prod.mk.injEq,true_and] at this
  obtain ⟨rfl,rfl⟩:=this
  obtain ⟨h1,h2⟩:=h.rootD (y:=0) (d:=[]) hnp (fun t e=>e ▸ hnp) hat hput hhas (G':=ldG G (park y) [0,k] r p) (c0E h.inj _ _ _ _) (c0F h.rng _ _ _ _)
   (fun r' h1 h2=>funext fun q=>C4 (fun e=>h2 e.1) (fun e=>l5 h1 y e.1)) (fun q hq=>C4 (fun e=>hq e.2) (fun e=>l5 hnp y e.1))
   (fun x hx=>by
    have hself:ldG G (park y) [0,k] r p r p=G r p:=C4 (fun e=>e.2.2 rfl) (fun e=>l5 hnp y e.1)
    have hgh:(fun q=>ldG G (park y) [0,k] r p r (p ++ q))=V5 G y k (.ref r ver p m s n):=by
     funext q
     unfold V5
     split
     ·rename_i e;subst e;rw [List.append_nil];exact hself
     ·rename_i e
      exact c3Z G (park y) [0,k] r p e
    refine d3H hx (v:=u) (by rw [hgh];exact ho) ?_
    simp only [List.append_nil]
    exact hself) rfl rfl
  exact ⟨rows',f,rfl,hput,rfl,hhas,h1,h2⟩
 ·rename_i e1;cases e1
 ·exact (i5 hrun).elim
theorem b8Q {E:Env} (φ:Sems):∀ (l l2:List C) (σ:St) {L σ' L'},(b5m l l2).run φ σ L=some ((),σ',L')→l2.length=l.length∧∀ (j:Nat) r ver p m s n,l[j]?=some (.ref r ver p m s n)→∃ f,l2[j]?=some (.tr true (.arr m n f))
 | [],[],σ,L,σ',L',_=>⟨rfl,fun j r ver p m s n hj=>by simp at hj⟩
 | [],_::_,σ,L,σ',L',h=>(i5 h).elim
 | _::_,[],σ,L,σ',L',h=>(i5 h).elim
 | c::l,d::l2,σ,L,σ',L',h=>by
  obtain ⟨_,σ1,L1,h1,h2⟩:=run_bind (φ:=φ) (p:=b3y c d) h
  obtain ⟨hl,hh⟩:=b8Q (E:=E) φ l l2 σ1 h2
  refine ⟨by simp [hl],fun j r ver p m s n hj=>?_⟩
  cases j with
  | zero =>
   simp only [List.getElem?_cons_zero,Option.some.injEq] at hj
   subst hj
   obtain ⟨m',n',f,rfl⟩:∃ m' n' f,d=.tr true (.arr m' n' f):=by
    unfold b3y at h1
    split at h1
    ·exact ⟨_,_,_,rfl⟩
    ·rename_i e1;cases e1
    ·exact (i5 h1).elim
   simp only [b3y,O6] at h1
   obtain ⟨hb,_⟩:=j9 h1
   simp only [Bool.and_eq_true] at hb
   have e1:=j8 hb.1;have e3:=j8 hb.2.1
   subst e1;subst e3
   exact ⟨_,rfl⟩
  | succ j=>simpa using hh j r ver p m s n (by simpa using hj)
theorem b8R {E} (φ:Sems) (y:Nat):∀ (l l2:List C) (k0:Nat) (σ:St) (G:GG),Rel E σ a w G→a3M (l.flatMap a0Y)=true →
  (∀ (j:Nat) r ver p m s n,l[j]?=some (.ref r ver p m s n)→notPark r∧rowsAt (σ.get r).rows p=some (.lent m n)∧∃ f u,l2[j]?=some (.tr true (.arr m n f))∧RelOwn w (.arr m n f) (V5 G y (k0+j) (.ref r ver p m s n)) u) →
  (∀ (j j':Nat) r ver p m s n ver' m' s' n',l[j]?=some (.ref r ver p m s n)→l[j']?=some (.ref r ver' p m' s' n')→j=j') →
  ∀ {L σ' L'},(b5m l l2).run φ σ L=some ((),σ',L')→∃ G',Rel E σ' a w G'∧u7 G σ.V G' σ'.V∧∀ z,z≠y→G' (park z)=G (park z)
 | [],[],k0,σ,G,h,_,_,_,L,σ',L',hrun=>by
  have:=g7 (φ:=φ) hrun
  simp only [Prod.mk.injEq,true_and] at this
  obtain ⟨rfl,rfl⟩:=this
  exact ⟨G,h,u7.refl _ _,fun _ _=>rfl⟩
 | [],_::_,k0,σ,G,h,_,_,_,L,σ',L',hrun=>(i5 hrun).elim
 | _::_,[],k0,σ,G,h,_,_,_,L,σ',L',hrun=>(i5 hrun).elim
 | c::l,d::l2,k0,σ,G,h,hpo,hrec,hdis,L,σ',L',hrun=>by
  obtain ⟨_,σ1,L1,h1,h2⟩:=run_bind (φ:=φ) (p:=b3y c d) hrun
  have htail:∀ (σ1:St) (G1:GG),Rel E σ1 a w G1→u7 G σ.V G1 σ1.V→(∀ z,z≠y→G1 (park z)=G (park z)) →
    (∀ (j:Nat) r ver p m s n,l[j]?=some (.ref r ver p m s n)→notPark r→rowsAt (σ.get r).rows p=some (.lent m n)→rowsAt (σ1.get r).rows p=some (.lent m n)∧V5 G1 y (k0+1+j) (.ref r ver p m s n)=V5 G y (k0+1+j) (.ref r ver p m s n)) →
    a3M (l.flatMap a0Y)=true→∀ {L1},(b5m l l2).run φ σ1 L1=some ((),σ',L')→∃ G',Rel E σ' a w G'∧u7 G σ.V G' σ'.V∧∀ z,z≠y→G' (park z)=G (park z):=by
   intro σ1 G1 hG1 hgood hpk hkeep hpo1 L1 hr
   obtain ⟨G',hG',hg',hpk'⟩:=b8R φ y l l2 (k0+1) σ1 G1 hG1 hpo1 (fun j r ver p m s n hj=>by
    obtain ⟨h5,h6,f,u,h7,h8⟩:=hrec (j+1) r ver p m s n (by simpa using hj)
    obtain ⟨h9,h10⟩:=hkeep j r ver p m s n hj h5 h6
    refine ⟨h5,h9,f,u,by simpa using h7,?_⟩
    rw [h10]
    have e:k0+(j+1)=k0+1+j:=by omega
    rw [e] at h8
    exact h8) (fun j j' r ver p m s n ver' m' s' n' hj hj'=>by
     have:=hdis (j+1) (j'+1) r ver p m s n ver' m' s' n' (by simpa using hj) (by simpa using hj')
     omega) hr
   exact ⟨G',hG',hgood.trans hg',fun z hz=>(hpk' z hz).trans (hpk z hz)⟩
  cases c with
  | ref r ver p m s n =>
   simp only [List.flatMap_cons,a0Y,List.singleton_append,a3M,Bool.and_eq_true,List.all_eq_true] at hpo
   obtain ⟨hnp,hat,f,u,hd,hrel⟩:=hrec 0 r ver p m s n rfl
   simp only [List.getElem?_cons_zero,Option.some.injEq] at hd
   subst hd
   rw [Nat.add_zero] at hrel
   obtain ⟨rows',f',_,hput,rfl,hhas,hG1,hgood⟩:=d3J h φ y k0 hnp hat hrel h1
   refine htail _ _ hG1 hgood (fun z hz=>funext fun q=>C4 (fun e=>l5 hnp z e.1.symm) (fun e=>hz (O5 e.1))) (fun j r1 ver1 p1 m1 s1 n1 hj hnp1 hat1=>?_) hpo.2 h2
   have hmem:(r1,p1)∈l.flatMap a0Y:=List.mem_flatMap.2 ⟨_,List.mem_of_getElem? hj,by simp [a0Y]⟩
   have hok:=hpo.1 (r1,p1) hmem
   have hne:¬ (r=r1∧p=p1):=by
    rintro ⟨rfl,rfl⟩
    have:=hdis 0 (j+1) r ver p m s n ver1 m1 s1 n1 rfl (by simpa using hj)
    omega
   have hg1:ldG G (park y) [0,k0] r p r1 p1=G r1 p1:=C4 (fun e=>by
    obtain ⟨rfl,e2,e3⟩:=e
    exact e3 (e2.eq_of_length (b6J hok))) (fun e=>l5 hnp1 y e.1)
   refine ⟨?_,?_⟩
   ·by_cases er:r=r1
    ·subst er
     rw [n9,if_pos ⟨rfl,hhas⟩]
     exact b7x (b6J hok).symm (fun e=>hne ⟨rfl,e.symm⟩) hat1 hput
    ·rw [n9,if_neg fun e=>er e.1]
     exact hat1
   ·funext q
    unfold V5
    split
    ·exact hg1
    ·refine C4 (fun e=>l5 hnp y e.1.symm) (fun e=>?_)
     have:=e.2.1
     simp only [List.cons_prefix_cons] at this
     omega
  | tr o t =>
   have:(b3y (.tr o t) d)=.ret ():=by cases d <;> rfl
   rw [this] at h1
   have:=g7 h1
   simp only [Prod.mk.injEq,true_and] at this
   obtain ⟨rfl,rfl⟩:=this
   exact htail _ G h (u7.refl _ _) (fun _ _=>rfl) (fun j r ver p m s n hj hnp hat=>⟨hat,rfl⟩) hpo h2
  | pt x=>exact (i5 (φ:=φ) (α:=Unit) h1).elim
  | fn f caps=>exact (i5 (φ:=φ) (α:=Unit) h1).elim
  | dead=>exact (i5 (φ:=φ) (α:=Unit) h1).elim
end
end Go.Mach
