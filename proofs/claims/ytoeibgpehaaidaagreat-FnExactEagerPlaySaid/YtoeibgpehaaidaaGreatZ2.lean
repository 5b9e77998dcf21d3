/- Lemmas and definitions of the proof (N3 N4 N5 N7 Ma Mb Mc N6). Conditions: none. -/
import Derived.Laws.IdiomCopy
import Derived.LoopN
import Derived.Test.YtoeibgpehaaidaaGreatZ1
set_option linter.all false
namespace Go.Mach
section
variable {P:Program} {φ:Sems} {a:Act} {w:World}
theorem e3O {c c':C} {σ σ':St} {L L':Log} (h:(b4r c).run φ σ L=some (c',σ',L')):σ'=σ∧∃ t,b1x c=some t∧c'=.tr true t:=by
 unfold b4r at h
 split at h
 ·rename_i t ht
  have:=g7 h
  simp only [Prod.mk.injEq] at this
  obtain ⟨rfl,rfl,_⟩:=this
  exact ⟨rfl,t,ht,rfl⟩
 ·exact (i5 h).elim
theorem a9F:∀ {l l':List C} {σ σ':St} {L L':Log},(a0a b4r l).run φ σ L=some (l',σ',L')→σ'=σ∧l'.length=l.length∧∀ (k:Nat) c',l'[k]?=some c'→∃ c t,l[k]?=some c∧b1x c=some t∧c'=.tr true t
 | [],l',σ,σ',L,L',h=>by
  have:=g7 (φ:=φ) h
  simp only [Prod.mk.injEq] at this
  obtain ⟨rfl,rfl,_⟩:=this
  exact ⟨rfl,rfl,fun k c' hk=>by simp at hk⟩
 | c::l,l',σ,σ',L,L',h=>by
  obtain ⟨c1,σ1,L1,h1,h2⟩:=run_bind h
  obtain ⟨rfl,t,ht,rfl⟩:=e3O h1
  obtain ⟨l1,σ2,L2,h3,h4⟩:=run_bind h2
  obtain ⟨rfl,hl,hh⟩:=a9F h3
  have:=g7 h4
  simp only [Prod.mk.injEq] at this
  obtain ⟨rfl,rfl,_⟩:=this
  refine ⟨rfl,by simp [hl],fun k c' hk=>?_⟩
  cases k with
  | zero=>simp at hk;subst hk;exact ⟨c,t,rfl,ht,rfl⟩
  | succ k =>
   obtain ⟨c2,t2,h5,h6,h7⟩:=hh k c' (by simpa using hk)
   exact ⟨c2,t2,by simpa using h5,h6,h7⟩
theorem b0W {E G V w g ag l l' v} (hr:i7 E G V w g (ag,l) v) (hl:l'.length=l.length) (hh:∀ (k:Nat) c',l'[k]?=some c'→∃ c t,l[k]?=some c∧b1x c=some t∧c'=C.tr true t) :
  ∀ E' G' V',i7 E' G' V' w g (ag,l') v:=by
 intro E' G' V'
 by_cases hne:l=[]
 ·subst hne
  have:l'=[]:=List.eq_nil_of_length_eq_zero hl
  subst this
  cases ag with
  | false=>exact hr
  | true=>obtain ⟨vs,e,hc⟩:=hr;exact ⟨vs,e,hc.1,fun k c hk=>by simp at hk⟩
 ·obtain ⟨vs,hc,back⟩:=hr.cs hne
  refine back _ _ _ _ _ _ hl ⟨by rw [hl];exact hc.1,fun k c' hk=>?_⟩
  obtain ⟨c,t,h1,h2,rfl⟩:=hh k c' hk
  obtain ⟨u,hu,hrel⟩:=hc.2 k c h1
  exact ⟨u,hu,b6H hrel h2⟩
theorem b8S {E G V g row row' v} {σ σ':St} {L L':Log} (hr:i7 E G V w g row v) (hrun:(b8y row).run φ σ L=some (row',σ',L')) :
  σ'=σ∧row'.2.length=row.2.length∧U9 row'.2∧∀ E' G' V',i7 E' G' V' w g row' v:=by
 obtain ⟨cs,σ1,L1,h1,h2⟩:=run_bind hrun
 obtain ⟨rfl,hl,hh⟩:=a9F h1
 have:=g7 h2
 simp only [Prod.mk.injEq] at this
 obtain ⟨rfl,rfl,_⟩:=this
 refine ⟨rfl,hl,fun k c hk=>?_,b0W (ag:=row.1) (l:=row.2) hr hl hh⟩
 obtain ⟨c,t,_,_,rfl⟩:=hh k c hk
 exact ⟨t,rfl⟩
theorem a3O (md:List Nat):md.headD 0=md.getD 0 0:=by cases md <;> rfl
theorem a9G (md:List Nat) (j:Nat):md.tail.getD j 0=md.getD (j+1) 0:=by cases md <;> simp
theorem b5t {E:Env} {σ:St} {G:GG} (h:Rel E σ a w G) {t:TypeId} {x:Operand} {row:Row} {L L':Log} {σ':St} (hrun:(c2l P t x).run φ σ L=some (row,σ',L')):σ'=σ∧i7 E G σ.V w (fun _=>noG) row (a.eval x):=by
 obtain ⟨row0,σ1,L1,h1,h2⟩:=run_bind hrun
 obtain ⟨rfl,hr⟩:=Q3 h h1
 have:=g7 h2
 simp only [Prod.mk.injEq] at this
 obtain ⟨rfl,rfl,rfl⟩:=this
 exact ⟨rfl,b0U hr⟩
theorem b8T {E} (φ:Sems):∀ (xs:List Operand) (md:List Nat) (ty:List TypeId) (i0:Nat) (σ:St) (G:GG),Rel E σ a w G→(∀ z,i0 < z→G (park z)=noG)→∀ {L rows σ' L'},(c3O P md ty xs).run φ σ L=some (rows,σ',L') →
  ∃ G',Rel E σ' a w G'∧rows.length=xs.length∧u7 G σ.V G' σ'.V∧(∀ z,z≤i0→G' (park z)=G (park z))∧(∀ z,i0+xs.length < z→G' (park z)=noG) ∧
   (∀ (j:Nat) x row,xs[j]?=some x→rows[j]?=some row→(md.getD j 0=3→U9 row.2∧∀ E' G'' V',i7 E' G'' V' w (fun k q=>G' (park (i0+j+1)) (0::k::q)) row (a.eval x))∧(md.getD j 0≠3→G' (park (i0+j+1))=noG))
 | [],md,ty,i0,σ,G,h,hp,L,rows,σ',L',hrun=>by
  have:=g7 (φ:=φ) hrun
  simp only [Prod.mk.injEq] at this
  obtain ⟨rfl,rfl,rfl⟩:=this
  exact ⟨G,h,rfl,u7.refl _ _,fun _ _=>rfl,fun z hz=>hp z (by simpa using hz),fun j x row hj=>by simp at hj⟩
 | x::xs,md,ty,i0,σ,G,h,hp,L,rows,σ',L',hrun=>by
  obtain ⟨row,σ1,L1,h1,h2⟩:=run_bind hrun
  obtain ⟨a9x,σ2,L2,h3,h4⟩:=run_bind h2
  have:=g7 h4
  simp only [Prod.mk.injEq] at this
  obtain ⟨rfl,rfl,rfl⟩:=this
  have hfirst:∃ G1,Rel E σ1 a w G1∧u7 G σ.V G1 σ1.V∧(∀ z,z≠i0+1→G1 (park z)=G (park z)) ∧
    (md.getD 0 0=3→U9 row.2∧∀ E' G'' V',i7 E' G'' V' w (fun k q=>G1 (park (i0+1)) (0::k::q)) row (a.eval x))∧(md.getD 0 0≠3→G1 (park (i0+1))=noG):=by
   rw [a3O] at h1
   cases ht:Nat.beq (md.getD 0 0) 3 with
   | false =>
    rw [ht] at h1
    have:=g7 (φ:=φ) h1
    simp only [Prod.mk.injEq] at this
    obtain ⟨rfl,rfl,rfl⟩:=this
    refine ⟨G,h,u7.refl _ _,fun _ _=>rfl,fun e=>?_,fun _=>hp _ (by omega)⟩
    rw [e,E5] at ht;cases ht
   | true =>
    rw [ht] at h1
    simp only [cond_true] at h1
    obtain ⟨row0,σ3,L3,h5,h6⟩:=run_bind h1
    obtain ⟨rfl,hr⟩:=b5t h h5
    obtain ⟨row2,σ4,L4,h7,h8⟩:=run_bind h6
    obtain ⟨G1,hG1,hr1,_,hgood,hpk⟩:=b5q h φ (i0+1) (hp _ (by omega)) hr h7
    obtain ⟨rfl,_,hall,hrel⟩:=b8S hr1 h8
    exact ⟨G1,hG1,hgood,hpk,fun _=>⟨hall,hrel⟩,fun e=>absurd (j8 ht) e⟩
  obtain ⟨G1,hG1,hgood1,hpk1,ha,hb⟩:=hfirst
  obtain ⟨G2,hG2,hl,hgood2,hlow,hhigh,hh⟩:=b8T φ xs md.tail ty.tail (i0+1) σ1 G1 hG1 (fun z hz=>by rw [hpk1 z (by omega)];exact hp z (by omega)) h3
  refine ⟨G2,hG2,by simp [hl],hgood1.trans hgood2,fun z hz=>by rw [hlow z (by omega),hpk1 z (by omega)],fun z hz=>hhigh z (by simp at hz;omega),fun j x' row' hj hj'=>?_⟩
  cases j with
  | zero =>
   simp only [List.getElem?_cons_zero,Option.some.injEq] at hj hj'
   subst hj;subst hj'
   rw [Nat.add_zero,hlow _ (Nat.le_refl _)]
   exact ⟨ha,hb⟩
  | succ j =>
   have:=hh j x' row' (by simpa using hj) (by simpa using hj')
   rw [a9G] at this
   have e:i0+1+j+1=i0+(j+1)+1:=by omega
   rw [e] at this
   exact this
theorem c1h:∀ (xs:List Operand) (md:List Nat) (i0:Nat),(∀ y∈a4H i0 md xs,∃ j,y.1=i0+j∧xs[j]?=some y.2.2∧md.getD j 0=y.2.1∧(y.2.1=1∨y.2.1=2)) ∧
  (∀ (j:Nat) x,xs[j]?=some x→md.getD j 0=1∨md.getD j 0=2→(i0+j,md.getD j 0,x)∈a4H i0 md xs)
 | [],md,i0=>⟨fun y hy=>by simp [a4H] at hy,fun j x hj=>by simp at hj⟩
 | x::xs,md,i0=>by
  obtain ⟨h1,h2⟩:=c1h xs md.tail (i0+1)
  have hb:(Nat.beq (md.headD 0) 1 || Nat.beq (md.headD 0) 2)=true↔(md.getD 0 0=1∨md.getD 0 0=2):=by
   rw [a3O,Bool.or_eq_true]
   exact ⟨fun h=>h.imp j8 j8,fun h=>h.imp (fun e=>by rw [e];rfl) fun e=>by rw [e];rfl⟩
  simp only [a4H]
  constructor
  ·intro y hy
   have key:y∈a4H (i0+1) md.tail xs→∃ j,y.1=i0+j∧(x::xs)[j]?=some y.2.2∧md.getD j 0=y.2.1∧(y.2.1=1∨y.2.1=2):=fun hy=>by
    obtain ⟨j,h3,h4,h5,h6⟩:=h1 y hy
    exact ⟨j+1,by omega,by simpa using h4,by rw [← a9G];exact h5,h6⟩
   cases hc:(Nat.beq (md.headD 0) 1 || Nat.beq (md.headD 0) 2) with
   | false=>rw [hc] at hy;exact key hy
   | true =>
    rw [hc] at hy
    simp only [cond_true,List.mem_cons] at hy
    rcases hy with rfl | hy
    ·exact ⟨0,rfl,rfl,(a3O md).symm,by rw [a3O];exact hb.1 hc⟩
    ·exact key hy
  ·intro j x' hj hm
   have key:∀ j,xs[j]?=some x'→md.getD (j+1) 0=1∨md.getD (j+1) 0=2→(i0+(j+1),md.getD (j+1) 0,x')∈a4H (i0+1) md.tail xs:=fun j hj hm=>by
    have:=h2 j x' hj (by rw [a9G];exact hm)
    rw [a9G] at this
    have e:i0+1+j=i0+(j+1):=by omega
    rw [e] at this
    exact this
   cases j with
   | zero =>
    simp only [List.getElem?_cons_zero,Option.some.injEq] at hj
    subst hj
    rw [hb.2 hm]
    simp only [cond_true,List.mem_cons]
    exact .inl (by rw [a3O,Nat.add_zero])
   | succ j =>
    have:=key j (by simpa using hj) hm
    cases (Nat.beq (md.headD 0) 1 || Nat.beq (md.headD 0) 2) with
    | false=>exact this
    | true=>exact List.mem_cons_of_mem _ this
theorem c1i {E σ G} {D:Nat→Prop} (h:Rel E σ a w G) (hD:Clear E σ G D) (lr:Row):∀ (xs:List Operand) (md:List Nat) (ty:List TypeId) (ts:List Row) {args L σ' L'},ts.length=xs.length→(c9B P md ty xs ts lr).run φ σ L=some (args,σ',L') →
  σ'=σ∧args.length=xs.length∧∀ (j:Nat) x,xs[j]?=some x→∃ arg,args[j]?=some arg∧(md.getD j 0=3→∃ t,ts[j]?=some t∧arg=(3,t))∧(md.getD j 0=1∨md.getD j 0=2→arg=(md.getD j 0,lr)) ∧
   (¬ (md.getD j 0=3∨md.getD j 0=1∨md.getD j 0=2)→arg.1=0∧a7v w D arg.2 (a.eval x))
 | [],md,ty,[],args,L,σ',L',_,hrun=>by
  have:=g7 (φ:=φ) hrun
  simp only [Prod.mk.injEq] at this
  obtain ⟨rfl,rfl,rfl⟩:=this
  exact ⟨rfl,rfl,fun j x hj=>by simp at hj⟩
 | x::xs,md,ty,t::ts,args,L,σ',L',hl,hrun=>by
  obtain ⟨arg,σ1,L1,h1,h2⟩:=run_bind hrun
  obtain ⟨args1,σ2,L2,h3,h4⟩:=run_bind h2
  have:=g7 h4
  simp only [Prod.mk.injEq] at this
  obtain ⟨rfl,rfl,rfl⟩:=this
  have hfirst:σ1=σ∧(md.getD 0 0=3→arg=(3,t))∧(md.getD 0 0=1∨md.getD 0 0=2→arg=(md.getD 0 0,lr))∧(¬ (md.getD 0 0=3∨md.getD 0 0=1∨md.getD 0 0=2)→arg.1=0∧a7v w D arg.2 (a.eval x)):=by
   rw [a3O] at h1
   cases h3b:Nat.beq (md.getD 0 0) 3 with
   | true =>
    rw [h3b] at h1
    have:=g7 (φ:=φ) h1
    simp only [Prod.mk.injEq] at this
    obtain ⟨rfl,rfl,rfl⟩:=this
    have e:=j8 h3b
    exact ⟨rfl,fun _=>rfl,fun hm=>by omega,fun hm=>absurd (.inl e) hm⟩
   | false =>
    have e3:md.getD 0 0≠3:=fun e=>by rw [e,E5] at h3b;cases h3b
    rw [h3b] at h1
    simp only [cond_false] at h1
    cases h12:(Nat.beq (md.getD 0 0) 1 || Nat.beq (md.getD 0 0) 2) with
    | true =>
     rw [h12] at h1
     have:=g7 (φ:=φ) h1
     simp only [Prod.mk.injEq] at this
     obtain ⟨rfl,rfl,rfl⟩:=this
     rw [Bool.or_eq_true] at h12
     have e:=h12.imp j8 j8
     exact ⟨rfl,fun hm=>absurd hm e3,fun _=>rfl,fun hm=>absurd (.inr e) hm⟩
    | false =>
     rw [h12] at h1
     simp only [cond_false] at h1
     obtain ⟨row0,σ3,L3,h5,h6⟩:=run_bind h1
     obtain ⟨rfl,hr⟩:=b5t h h5
     obtain ⟨d1Y,σ4,L4,h7,h8⟩:=run_bind h6
     obtain ⟨rfl,hr1⟩:=d0l h hD hr h7
     have:=g7 h8
     simp only [Prod.mk.injEq] at this
     obtain ⟨rfl,rfl,rfl⟩:=this
     refine ⟨rfl,fun hm=>absurd hm e3,fun hm=>?_,fun _=>⟨rfl,hr1⟩⟩
     have:(Nat.beq (md.getD 0 0) 1 || Nat.beq (md.getD 0 0) 2)=true:=by
      rw [Bool.or_eq_true]
      exact hm.imp (fun e=>by rw [e];rfl) fun e=>by rw [e];rfl
     rw [h12] at this
     cases this
  obtain ⟨rfl,ha,hb,hc⟩:=hfirst
  obtain ⟨rfl,hl1,hh⟩:=c1i h hD lr xs md.tail ty.tail ts (by simpa using hl) h3
  refine ⟨rfl,by simp [hl1],fun j x' hj=>?_⟩
  cases j with
  | zero =>
   simp only [List.getElem?_cons_zero,Option.some.injEq] at hj
   subst hj
   exact ⟨arg,rfl,fun e=>⟨t,rfl,ha e⟩,hb,hc⟩
  | succ j =>
   obtain ⟨arg',h5,h6,h7,h8⟩:=hh j x' (by simpa using hj)
   rw [a9G] at h6 h7 h8
   exact ⟨arg',by simpa using h5,fun e=>by simpa using h6 e,h7,h8⟩
 | [],_,_,_::_,_,_,_,_,hl,_=>by simp at hl
 | _::_,_,_,[],_,_,_,_,hl,_=>by simp at hl
theorem e3P {f:FuncId} {args:List Arg} {k:List Row→List Row→Pr Unit} {σ:St} {L:Log} {y} (h:(Pr.call f args k).run φ σ L=some y):∃ rs outs,(∀ R z K,φ.run f args R z K=K rs outs)∧(k rs outs).run φ σ L=some y:=by
 simp only [Pr.run] at h
 rcases φ.det f args with hd | ⟨rs,outs,hd⟩
 ·rw [hd] at h;cases h
 ·rw [hd] at h
  exact ⟨rs,outs,hd,h⟩
theorem d9e (hφ:V0 P φ) {dst f args at_ ty pos after guard} {K:Act→World→Prop} {Q:Exit→Act→World→Prop} {g:FuncId} {vs:Array Value} (hv:a.eval f=.func (.func g) #[] vs) {rows:List Arg} {γ:Nat→Gh} {rs outs:List Row}
  (hx:ArgsX w rows (args.map a.eval ++ vs) γ) (hok:∀ R z K,φ.run g rows R z K=K rs outs)
  (hk:∀ v δ w',GrewD w w' (Dof γ)→ResX w w' γ rows (args.map a.eval ++ vs) rs outs v δ→K (a.put dst v) w') :
  Oper.wp P ⟨dst,.call ⟨.value f,args,at_⟩,ty,pos,after,guard⟩ a w K Q:=by
 obtain ⟨⟨fn,hfn,hbody,hname⟩,hcall⟩:=hφ _ _ _ _ hok
 have hc:=hcall w _ γ hx
 unfold Oper.wp
 have hx':(execOp a.eval ⟨dst,.call ⟨.value f,args,at_⟩,ty,pos,after,guard⟩).run P w=.ok (.enter g (args.map a.eval ++ vs)) w:=by
  have hb:¬ fn.body=none:=fun e=>by rw [e] at hbody;simp at hbody
  simp [execOp,resolve,hv,Deferred.ofValue,invoke,callFunc,hfn,hname,hb]
 rw [hx']
 refine hc.mono fun e w' ⟨v,δ,he,hgr,hres⟩=>?_
 subst he
 exact hk v δ w' hgr hres
/-! ### the ghosts of a call -/
def K3 (G:GG) (hdr:Nat→Gh) (i:Nat):Gh:=fun p=>match hdr i p with
 | some y=>some y
 | none=>G (park (i+1)) p
theorem a6i {G:GG} {hdr:Nat→Gh} {i p y} (h:K3 G hdr i p=some y):hdr i p=some y∨G (park (i+1)) p=some y:=by
 unfold K3 at h
 split at h
 ·rename_i z hz
  exact .inl (hz.trans h)
 ·exact .inr h
structure Hdr (σ:St) (G:GG) (hdr:Nat→Gh):Prop where
 home:∀ i p ad c,hdr i p=some (ad,c)→∃ r q,notPark r∧G r q=some (ad,c)∧(∀ m n f,rowsAt (σ.get r).rows q≠some (.arr m n f))∧(∀ t,r=box t→q=[]→(σ.get r).rows=[])
 inj:∀ i p i' p' ad c ad' c',hdr i p=some (ad,c)→hdr i' p'=some (ad',c')→ad.block=ad'.block→i=i'∧p=p'
theorem e3Q {E σ G hdr} (h:Rel E σ a w G) (hh:Hdr σ G hdr):∀ i p i' p' ad c ad' c',K3 G hdr i p=some (ad,c)→K3 G hdr i' p'=some (ad',c')→ad.block=ad'.block→i=i'∧p=p':=by
 intro i p i' p' ad c ad' c' h1 h2 hb
 rcases a6i h1 with g1 | g1 <;> rcases a6i h2 with g2 | g2
 ·exact hh.inj _ _ _ _ _ _ _ _ g1 g2 hb
 ·obtain ⟨r,q,hnp,hg,_⟩:=hh.home _ _ _ _ g1
  exact absurd ((h.inj _ _ _ _ _ _ _ _ hg g2 hb).1 ▸ hnp) (S1 _)
 ·obtain ⟨r,q,hnp,hg,_⟩:=hh.home _ _ _ _ g2
  exact absurd ((h.inj _ _ _ _ _ _ _ _ hg g1 hb.symm).1 ▸ hnp) (S1 _)
 ·obtain ⟨e1,e2⟩:=h.inj _ _ _ _ _ _ _ _ g1 g2 hb
  have:=O5 e1
  exact ⟨by omega,e2⟩
theorem d4E {E σ G hdr} (h:Rel E σ a w G) (hh:Hdr σ G hdr) {i p ad c} (h1:K3 G hdr i p=some (ad,c)):(E.w0.heap.size≤ad.block∨E.D ad.block)∧ad.block < w.heap.size:=by
 rcases a6i h1 with g1 | g1
 ·obtain ⟨r,q,hnp,hg,_⟩:=hh.home _ _ _ _ g1
  exact h.rng _ _ _ _ hg
 ·exact h.rng _ _ _ _ g1
theorem b6K {E σ G hdr} (h:Rel E σ a w G) (hh:Hdr σ G hdr):Clear E σ G (Dof (K3 G hdr)) where
 out:=by
  rintro b ⟨i,p,ad,c,h1,rfl⟩
  exact (d4E h hh h1).1
 live:=by
  rintro r p m n f ad c hnp hat hg ⟨i,p',ad',c',h1,hb⟩
  rcases a6i h1 with g1 | g1
  ·obtain ⟨r',q',hnp',hg',hno,_⟩:=hh.home _ _ _ _ g1
   obtain ⟨rfl,rfl⟩:=h.inj _ _ _ _ _ _ _ _ hg' hg hb
   exact hno _ _ _ hat
  ·exact absurd ((h.inj _ _ _ _ _ _ _ _ hg g1 hb.symm).1 ▸ hnp) (S1 _)
 boxes:=by
  rintro t ad c hrows hg ⟨i,p',ad',c',h1,hb⟩
  rcases a6i h1 with g1 | g1
  ·obtain ⟨r',q',hnp',hg',_,hno⟩:=hh.home _ _ _ _ g1
   obtain ⟨rfl,rfl⟩:=h.inj _ _ _ _ _ _ _ _ hg' hg hb
   exact hrows (hno t rfl rfl)
  ·exact absurd ((h.inj _ _ _ _ _ _ _ _ hg g1 hb.symm).1 ▸ J1 t) (S1 _)
/-- Behind the call: results in flight at park 0, what is lent at its park, less the headers. -/
def b1G (G:GG) (hdr δ:Nat→Gh) (i0:Nat):GG:=fun r=>if r % 4=3 then (if r=park 0 then δ 0 else if r=park (i0+1) then (fun p=>if (hdr i0 p).isSome then none else δ (i0+1) p) else noG) else G r
theorem c5I {G hdr δ i0 r} (h:notPark r):b1G G hdr δ i0 r=G r:=by unfold b1G;rw [if_neg h]
theorem d0m {G hdr δ i0}:b1G G hdr δ i0 (park 0)=δ 0:=by simp [b1G,park]
theorem d9f {G hdr δ i0}:b1G G hdr δ i0 (park (i0+1))=fun p=>if (hdr i0 p).isSome then none else δ (i0+1) p:=by
 have h1:park (i0+1) % 4=3:=by unfold park;omega
 have h2:park (i0+1)≠park 0:=fun e=>by have:=O5 e;omega
 unfold b1G
 rw [if_pos h1,if_neg h2,if_pos rfl]
theorem b8U {G hdr δ i0 r p y} (h:b1G G hdr δ i0 r p=some y):(notPark r∧G r p=some y)∨(r=park 0∧δ 0 p=some y)∨(r=park (i0+1)∧hdr i0 p=none∧δ (i0+1) p=some y):=by
 unfold b1G at h
 split at h
 ·split at h
  ·exact .inr (.inl ⟨‹_›,h⟩)
  ·split at h
   ·simp only at h
    split at h
    ·cases h
    ·rename_i hn
     exact .inr (.inr ⟨‹_›,by simpa using hn,h⟩)
   ·simp [noG] at h
 ·exact .inl ⟨‹_›,h⟩
theorem Rel.called {E σ G hdr δ w'} {rows:List Arg} {vals:Array Value} {rs outs:List Row} {v:Value} (h:Rel E σ a w G) (hh:Hdr σ G hdr) (i0:Nat) (hi0:∀ i p y,hdr i p=some y→i=i0)
  (hg:GrewD w w' (Dof (K3 G hdr))) (hr:ResX w w' (K3 G hdr) rows vals rs outs v δ) (hK:∀ p ad c,hdr i0 p=some (ad,c)→δ (i0+1) p=some (ad,c)):Rel E σ a w' (b1G G hdr δ i0):=by
 refine h.step (b6K h hh) hg (fun r hr=>c5I hr) ?_ ?_
 ·have cross:∀ {r q ad c i p ad' c'},notPark r→G r q=some (ad,c)→δ i p=some (ad',c')→ad.block=ad'.block→i=i0+1∧(hdr i0 p).isSome:=by
   intro r q ad c i p ad' c' hnp h1 h2 hb
   rcases (hr.rng _ _ _ _ h2).1 with h3 | ⟨j,p3,ad3,c3,h3,hb3⟩
   ·have:=(h.rng _ _ _ _ h1).2
    omega
   ·rcases a6i h3 with g | g
    ·obtain ⟨r4,q4,_,hg4,_⟩:=hh.home _ _ _ _ g
     have ej:=hi0 _ _ _ g
     subst ej
     obtain ⟨e1,e2⟩:=hr.inj _ _ _ _ _ _ _ _ h2 (hK _ _ _ g) hb3.symm
     subst e2
     exact ⟨e1,by rw [g];rfl⟩
    ·exact absurd ((h.inj _ _ _ _ _ _ _ _ h1 g (hb.trans hb3.symm)).1 ▸ hnp) (S1 _)
  intro r p r' p' ad c ad' c' h1 h2 hb
  rcases b8U h1 with ⟨n1,g1⟩ | ⟨e1,g1⟩ | ⟨e1,m1,g1⟩ <;> rcases b8U h2 with ⟨n2,g2⟩ | ⟨e2,g2⟩ | ⟨e2,m2,g2⟩
  ·exact h.inj _ _ _ _ _ _ _ _ g1 g2 hb
  ·have:=(cross n1 g1 g2 hb).1;omega
  ·have:=(cross n1 g1 g2 hb).2;rw [m2] at this;cases this
  ·have:=(cross n2 g2 g1 hb.symm).1;omega
  ·exact ⟨e1.trans e2.symm,(hr.inj _ _ _ _ _ _ _ _ g1 g2 hb).2⟩
  ·have:=(hr.inj _ _ _ _ _ _ _ _ g1 g2 hb).1;omega
  ·have:=(cross n2 g2 g1 hb.symm).2;rw [m1] at this;cases this
  ·have:=(hr.inj _ _ _ _ _ _ _ _ g1 g2 hb).1;omega
  ·exact ⟨e1.trans e2.symm,(hr.inj _ _ _ _ _ _ _ _ g1 g2 hb).2⟩
 ·intro r p ad c h1
  have hδ:∀ {i p ad c},δ i p=some (ad,c)→(E.w0.heap.size≤ad.block∨E.D ad.block)∧ad.block < w'.heap.size:=fun h2=>by
   obtain ⟨h3,h4⟩:=hr.rng _ _ _ _ h2
   have hsz:=h.size
   exact ⟨h3.elim (fun h5=>.inl (Nat.le_trans hsz h5)) fun hd=>(b6K h hh).out _ hd,h4⟩
  rcases b8U h1 with ⟨n1,g1⟩ | ⟨e1,g1⟩ | ⟨e1,m1,g1⟩
  ·exact ⟨(h.rng _ _ _ _ g1).1,Nat.lt_of_lt_of_le (h.rng _ _ _ _ g1).2 hg.size⟩
  ·exact hδ g1
  ·exact hδ g1
end
end Go.Mach
namespace Go.Mach
section
variable {P:Program} {φ:Sems} {a:Act} {w:World}
/-- The rows of a call are what its callee is told. -/
theorem e3R {E σ G hdr} (h:Rel E σ a w G) (hh:Hdr σ G hdr) {args:Array Operand} {vs:Array Value} {md:List Nat} {ts:List Row} {lr:Row} {caps':List Pt} {rest:List Arg} (hl:rest.length=args.toList.length) (hcl:caps'.length=vs.size)
  (hts:∀ (j:Nat) x row,args.toList[j]?=some x→ts[j]?=some row→md.getD j 0=3→U9 row.2∧∀ E' G'' V',i7 E' G'' V' w (fun k q=>K3 G hdr j (0::k::q)) row (a.eval x))
  (hlr:∀ (j:Nat) x,args.toList[j]?=some x→md.getD j 0=1∨md.getD j 0=2→ArgOk w (Dof (K3 G hdr)) (K3 G hdr j) (md.getD j 0,lr) (a.eval x))
  (hrest:∀ (j:Nat) x,args.toList[j]?=some x→∃ arg,rest[j]?=some arg∧(md.getD j 0=3→∃ t,ts[j]?=some t∧arg=(3,t))∧(md.getD j 0=1∨md.getD j 0=2→arg=(md.getD j 0,lr)) ∧
   (¬ (md.getD j 0=3∨md.getD j 0=1∨md.getD j 0=2)→arg.1=0∧a7v w (Dof (K3 G hdr)) arg.2 (a.eval x)))
  (hcaps:∀ (i:Nat) x,caps'[i]?=some x→∃ u,vs[i]?=some u∧∀ G' V,R1 (A4 w (Dof (K3 G hdr))) G' V x u) :
  ArgsX w (rest ++ caps'.map fun c=>(0,(false,[.pt c]))) (args.map a.eval ++ vs) (K3 G hdr) where
 size:=by simp [hl,hcl]
 inj:=e3Q h hh
 rng:=fun i p ad c h1=>(d4E h hh h1).2
 arg:=fun i x hi=>by
  by_cases hlt:i < rest.length
  ·rw [List.getElem?_append_left hlt] at hi
   have hlt':i < args.toList.length:=by rw [← hl];exact hlt
   obtain ⟨arg,h1,h2,h3,h4⟩:=hrest i _ (List.getElem?_eq_getElem hlt')
   rw [hi] at h1
   obtain rfl:=Option.some.inj h1
   refine ⟨a.eval args.toList[i],?_,?_⟩
   ·have hlt2:i < args.size:=by simpa using hlt'
    have:i < (args.map a.eval).size:=by simpa using hlt2
    rw [Array.getElem?_append_left this]
    simp [hlt2]
   ·by_cases c3:md.getD i 0=3
    ·obtain ⟨t,ht,rfl⟩:=h2 c3
     obtain ⟨k1,k2⟩:=hts i _ t (List.getElem?_eq_getElem hlt') ht c3
     unfold ArgOk
     rw [if_pos (.inr rfl)]
     exact ⟨k1,k2⟩
    ·by_cases c12:md.getD i 0=1∨md.getD i 0=2
     ·obtain rfl:=h3 c12
      exact hlr i _ (List.getElem?_eq_getElem hlt') c12
     ·obtain ⟨e,hr⟩:=h4 (fun hm=>hm.elim c3 c12)
      unfold ArgOk
      rw [e,if_neg (by omega),if_neg (by omega)]
      exact hr
  ·rw [List.getElem?_append_right (by omega)] at hi
   simp only [List.getElem?_map] at hi
   obtain ⟨c,hc,rfl⟩:=Option.map_eq_some_iff.1 hi
   obtain ⟨u,hu,hr⟩:=hcaps _ c hc
   refine ⟨u,?_,?_⟩
   ·have hsz:(args.map a.eval).size=rest.length:=by simp [hl]
    rw [Array.getElem?_append_right (by omega),hsz]
    exact hu
   ·unfold ArgOk
    rw [if_neg (by omega),if_neg (by omega)]
    exact hr
theorem e7G {E G} {σ:St} {caps:List Pt} {f:FuncId} {v:Value} (hcf:l4 E G σ.V w noG (.fn f caps) v):∃ vs:Array Value,v=.func (.func f) #[] vs∧vs.size=caps.length∧∀ (i:Nat) x,caps[i]?=some x→∃ u,vs[0+i]?=some u∧R1 E G σ.V x u:=by
 obtain ⟨vs,hv,hs,hh⟩:=hcf
 exact ⟨vs,hv,hs,fun i x hi=>by
  obtain ⟨u,hu,hr⟩:=hh i x hi
  exact ⟨u,by rw [Nat.zero_add];exact hu,hr⟩⟩
/-- The part of a call behind what is taken and lent. -/
theorem b8V (hφ:V0 P φ) {dst:Option Tmp} {f:Operand} {args:Array Operand} {at_ ty pos after guard} {K:Act→World→Prop} {Q:Exit→Act→World→Prop} {E:Env} {σ:St} {G:GG} {hdr:Nat→Gh} (h:Rel E σ a w G) (hh:Hdr σ G hdr)
  {g:FuncId} {caps:List Pt} (hcf:l4 E G σ.V w noG (.fn g caps) (a.eval f)) {md:List Nat} {ts:List Row} {lr:Row} (hlen:ts.length=args.toList.length)
  (hts:∀ (j:Nat) x row,args.toList[j]?=some x→ts[j]?=some row→md.getD j 0=3→U9 row.2∧∀ E' G'' V',i7 E' G'' V' w (fun k q=>K3 G hdr j (0::k::q)) row (a.eval x))
  (hlr:∀ (j:Nat) x,args.toList[j]?=some x→md.getD j 0=1∨md.getD j 0=2→ArgOk w (Dof (K3 G hdr)) (K3 G hdr j) (md.getD j 0,lr) (a.eval x))
  {k:List Row→Pr Unit} {tys:List TypeId} {L σ' L'} (hrun:(goP P dst g caps md tys args.toList ts lr k).run φ σ L=some ((),σ',L'))
  (hfin:∀ outs v δ w' rows vals rs σ1 L1 L2,GrewD w w' (Dof (K3 G hdr))→ResX w w' (K3 G hdr) rows vals rs outs v δ →
   (∀ (j:Nat) x,args.toList[j]?=some x→md.getD j 0=1∨md.getD j 0=2→rows[j]?=some (md.getD j 0,lr)∧vals[j]?=some (a.eval x)) →
   (k outs).run φ σ L1=some ((),σ1,L2)→∃ G',Rel E σ1 a w' G'∧G' (park 0)=δ 0)
  (hK:∀ a' w',S E σ' a' w'→K a' w'):Oper.wp P ⟨dst,.call ⟨.value f,args,at_⟩,ty,pos,after,guard⟩ a w K Q:=by
 obtain ⟨rest,σ1,L1,h1,h2⟩:=run_bind (φ:=φ) (p:=c9B P md tys args.toList ts lr) hrun
 have hD:=b6K h hh
 obtain ⟨rfl,hl,hrest⟩:=c1i h hD lr args.toList md tys ts hlen h1
 obtain ⟨caps',σ2,L2,h3,h4⟩:=run_bind h2
 obtain ⟨vs,hv,hs,hcs⟩:=e7G hcf
 obtain ⟨rfl,hlc,hcaps⟩:=b1F h hD caps vs 0 hcs h3
 obtain ⟨rs0,outs0,hok,h5⟩:=e3P h4
 have hx:=e3R (vs:=vs) h hh hl (hlc.trans hs.symm) hts hlr hrest (fun i x hi=>by
  obtain ⟨u,hu,hr⟩:=hcaps i x hi
  exact ⟨u,by rw [Nat.zero_add] at hu;exact hu,hr⟩)
 refine d9e hφ hv hx hok fun v δ w' hg hr=>?_
 obtain ⟨_,σ3,L3,h6,h7⟩:=run_bind h5
 obtain ⟨G',hG',hp0⟩:=hfin _ v δ w' _ _ _ _ _ _ hg hr (fun j x hj hm=>by
  obtain ⟨arg,k1,_,k3,_⟩:=hrest j x hj
  have hlt:j < rest.length:=(List.getElem?_eq_some_iff.1 k1).1
  refine ⟨by rw [List.getElem?_append_left hlt,k1,k3 hm],?_⟩
  have hlt2:j < args.size:=by rw [← Array.length_toList,← hl];exact hlt
  have:j < (args.map a.eval).size:=by simpa using hlt2
  rw [Array.getElem?_append_left this]
  have hx2:args[j]?=some x:=by simpa using hj
  simp [hx2]) h6
 exact hK _ _ (D5 hG' 0 (by rw [hp0];exact hr.res _ _ _) h7)
/-! ### a lent variable -/
theorem d3K {E:Env} {σ:St} {G:GG} (h:Rel E σ a w G) (φ:Sems) (y:Nat) {c:C} {v:Value} (hc:l4 E G σ.V w noG c v) {L row σ' L'} (hrun:(c9z c).run φ σ L=some (row,σ',L')) :
  ∃ t ver m b vs e,c=.pt (.ptr (box t) ver [] m 0 0)∧σ'=σ.set (box t) ⟨E0 [] (σ.get (box t)).ver,[]⟩∧σ.has (box t)=true∧Rel E σ' a w (ldG G (box t) [] (park y) [])∧u7 G σ.V (ldG G (box t) [] (park y) []) σ'.V∧m=row.2.length ∧
   v=.pointer (some ⟨b,0,none⟩)∧G (box t) []=some (⟨b,0,none⟩,1)∧w.heap[b]?=some (.cells vs e (0,0))∧U9 row.2∧∀ E' G' V',RelCs E' G' V' w (fun k q=>G (box t) (0::k::q)) row.2 vs:=by
 unfold c9z at hrun
 split at hrun
 ·rename_i r ver m
  obtain ⟨b0,o,rfl,⟨hnp,hbox⟩,_,hval⟩:=hc
  obtain ⟨t,rfl | rfl | rfl⟩:=a3b hnp
  ·have:=hbox rfl;unfold slot at this;omega
  rotate_left
  ·have:=hbox rfl;unfold ext at this;omega
  simp only [O6] at hrun
  split at hrun
  ·rename_i row0 hrow
   obtain ⟨hb,h2⟩:=j9 hrun
   simp only [Bool.and_eq_true] at hb
   have hm:=j8 hb.2
   obtain ⟨d1Y,σ1,L1,h3,h4⟩:=run_bind h2
   rcases h.box' t with h0 | ⟨row',b',vs,e,hrows,hg',hw,hcs⟩
   ·rw [h0] at hrow;simp at hrow
   ·rw [hrow] at hrows
    simp only [List.cons.injEq,and_true] at hrows
    subst hrows
    obtain ⟨off,cap,hg,ho⟩:=hval (j8 hb.1)
    rw [hg] at hg'
    simp only [Option.some.injEq,Prod.mk.injEq,Addr.mk.injEq,and_true] at hg'
    obtain ⟨⟨rfl,rfl⟩,rfl⟩:=hg'
    have hr:i7 E G σ.V w (fun k q=>G (box t) (0::k::q)) (true,row0.2) (.agg vs):=⟨vs,rfl,hcs⟩
    obtain ⟨cs,σ2,L2,h5,h6⟩:=run_bind h3
    obtain ⟨rfl,hl,hall⟩:=a9F h5
    have:=g7 h6
    simp only [Prod.mk.injEq] at this
    obtain ⟨rfl,rfl,rfl⟩:=this
    obtain ⟨hhas,h7⟩:=a4I h4
    have:=g7 h7
    simp only [Prod.mk.injEq] at this
    obtain ⟨rfl,rfl,rfl⟩:=this
    have hG:=h.rootV (box t) hnp [] (E0 [] _) (G':=ldG G (box t) [] (park y) []) (c0E h.inj _ _ _ _) (c0F h.rng _ _ _ _)
     (fun r' h1 h2=>funext fun q=>C4 (fun e=>l5 h1 y e.1) (fun e=>h2 e.1))
     (fun q=>⟨b1A _ _ _,fun hb=>C4 (fun e=>l5 hnp y e.1) (fun e=>b1B hb e.2)⟩)
     (fun t' e=>absurd e.symm (A3 t' t)) (fun t' e=>⟨.inl rfl,fun ht=>by
      have:=a6d e
      subst this
      rw [C4 (fun e=>l5 hnp y e.1) (fun e=>e.2.2 rfl)]
      exact h.xbox t ht⟩) (fun t' e=>absurd e (K2 t t')) hhas
    refine ⟨t,ver,m,b0,vs,e,rfl,rfl,hhas,hG.1,hG.2,by simp only;rw [hl];exact hm,by simp [ho],hg,hw,fun k c hk=>?_,fun E' G' V'=>?_⟩
    ·obtain ⟨c0,t0,_,_,rfl⟩:=hall k c hk
     exact ⟨t0,rfl⟩
    ·obtain ⟨vs',e',hc'⟩:=b0W hr hl hall E' G' V'
     cases e'
     exact hc'
  ·exact (i5 hrun).elim
 ·exact (i5 hrun).elim
theorem d3L {E:Env} {σ:St} {G:GG} (h:Rel E σ a w G) (φ:Sems) (y:Nat) {t ver m b:Nat} {out:Row} {vs e} (hg:G (box t) []=some (⟨b,0,none⟩,1)) (hw:w.heap[b]?=some (.cells vs e (0,0))) (hc:∀ E' G' V',RelCs E' G' V' w (fun k q=>G (park y) (0::k::q)) out.2 vs)
  {L σ' L'} (hrun:(c9A (.pt (.ptr (box t) ver [] m 0 0)) out).run φ σ L=some ((),σ',L')):∃ G',Rel E σ' a w G'∧∀ z,z≠y→G' (park z)=G (park z):=by
 simp only [c9A,O6] at hrun
 obtain ⟨_,h2⟩:=j9 hrun
 obtain ⟨hhas,h3⟩:=a4I h2
 have:=g7 h3
 simp only [Prod.mk.injEq,true_and] at this
 obtain ⟨rfl,rfl⟩:=this
 have hself:ldG G (park y) [] (box t) [] (box t) []=G (box t) []:=C4 (fun e=>e.2.2 rfl) (fun e=>l5 (J1 t) y e.1)
 refine ⟨ldG G (park y) [] (box t) [],(h.rootV (box t) (J1 t) [out] _ (c0E h.inj _ _ _ _) (c0F h.rng _ _ _ _)
  (fun r' h1 h2=>funext fun q=>C4 (fun e=>h2 e.1) (fun e=>l5 h1 y e.1))
  (fun q=>⟨b1A _ _ _,fun hb=>C4 (fun e=>b1B hb e.2) (fun e=>l5 (J1 t) y e.1)⟩)
  (fun t' e=>absurd e.symm (A3 t' t)) (fun t' e'=>⟨.inr ⟨out,b,vs,e,rfl,by rw [hself];exact hg,hw,?_⟩,fun ht=>by
   have:=a6d e'
   subst this
   rw [hself]
   exact h.xbox t ht⟩) (fun t' e=>absurd e (K2 t t')) hhas).1,fun z hz=>funext fun q=>C4 (fun e=>l5 (J1 t) z e.1.symm) (fun e=>hz (O5 e.1))⟩
 have:(fun (k:Nat) (q:Path)=>ldG G (park y) [] (box t) [] (box t) (0::k::q))=fun k q=>G (park y) (0::k::q):=by
  funext k q
  exact c3Z G (park y) [] (box t) [] (q:=0::k::q) (by simp)
 rw [this]
 exact hc _ _ _
end
end Go.Mach
namespace Go.Mach
section
variable {P:Program} {φ:Sems} {a:Act} {w:World}
theorem i7.same {E G V w g E' G' V' w' g' ag l l2 u} (h:i7 E G V w g (ag,l) u) (h':i7 E' G' V' w' g' (ag,l2) u) (hl:l2.length=l.length) (hne:l≠[]):∃ vs,RelCs E G V w g l vs∧RelCs E' G' V' w' g' l2 vs:=by
 cases ag with
 | true =>
  obtain ⟨vs,e,hc⟩:=h
  obtain ⟨vs',e',hc'⟩:=h'
  rw [e] at e'
  cases e'
  exact ⟨vs,hc,hc'⟩
 | false=>match l,l2,hl,h,h' with
  | [],_,_,_,_=>exact absurd rfl hne
  | [c],[c'],_,h,h' =>
   refine ⟨#[u],⟨rfl,fun k c1 hk=>?_⟩,⟨rfl,fun k c1 hk=>?_⟩⟩
   ·cases k with
    | zero=>simp at hk;subst hk;exact ⟨u,rfl,h⟩
    | succ k=>simp at hk
   ·cases k with
    | zero=>simp at hk;subst hk;exact ⟨u,rfl,h'⟩
    | succ k=>simp at hk
theorem f0P {w w':World} {m n m' n':Nat} {f f':Nat→Nat→T} {g g':Gh} {v:Value} (h:RelOwn w (.arr m n f) g v) (h':RelOwn w' (.arr m' n' f') g' v):g' []=g []:=by
 rcases h with ⟨h1,_,rfl⟩ | ⟨b,off,cap,cs,e,h1,rfl,_⟩ <;> rcases h' with ⟨k1,_,k2⟩ | ⟨b',off',cap',cs',e',k1,k2,_⟩
 ·exact k1.trans h1.symm
 ·cases k2
 ·cases k2
 ·cases k2
  exact k1.trans h1.symm
def a4K (G:GG) (l:List C):Gh
 | [0,k]=>match l[k]? with
  | some (.ref r _ q _ _ _)=>G r q
  | _=>none
 | _=>none
theorem a9t {G:GG} {l:List C} {p y} (h:a4K G l p=some y):∃ k r ver q m s n,p=[0,k]∧l[k]?=some (.ref r ver q m s n)∧G r q=some y:=by
 unfold a4K at h
 split at h
 ·rename_i k
  split at h
  ·rename_i r ver q m s n hk
   exact ⟨k,r,ver,q,m,s,n,rfl,hk,h⟩
  ·cases h
 ·cases h
theorem c1j {G:GG} {l:List C} {k:Nat} {q:Path} (hq:q≠[]):a4K G l (0::k::q)=none:=by
 cases q with
 | nil=>exact absurd rfl hq
 | cons x q=>rfl
def P0 (i:Nat) (g:Gh):Nat→Gh:=fun j=>if j=i then g else noG
theorem O0 {i:Nat} {g:Gh} {j p y} (h:P0 i g j p=some y):j=i∧g p=some y:=by
 unfold P0 at h
 split at h
 ·exact ⟨‹_›,h⟩
 ·simp [noG] at h
theorem c4a {G:GG} {i:Nat} {g:Gh} {j:Nat} (h:j≠i):K3 G (P0 i g) j=G (park (j+1)):=by
 funext p
 simp [K3,P0,h,noG]
theorem b8W {G:GG} {i:Nat} {g:Gh} {p}:K3 G (P0 i g) i p=(g p).or (G (park (i+1)) p):=by
 simp only [K3,P0,if_true]
 cases g p <;> rfl
theorem e7H (hφ:V0 P φ) {dst f args at_ ty pos after guard}:O7 P φ ⟨dst,.call ⟨.value f,args,at_⟩,ty,pos,after,guard⟩ (opP P ⟨dst,.call ⟨.value f,args,at_⟩,ty,pos,after,guard⟩):=by
 intro E σ a w L σ' L' ⟨G,hG,hp⟩ hrun K Q hK
 obtain ⟨cf,σ1,L1,h1,h2⟩:=run_bind (φ:=φ) (p:=C0 f) hrun
 obtain ⟨rfl,hcf⟩:=o7 hG h1
 unfold e6R at h2
 split at h2
 case h_2=>exact (i5 h2).elim
 rename_i g caps
 have h2':((c3O P (φ.md g) at_.toList args.toList).bind fun ts=>match a4H 0 (φ.md g) args.toList with
  | []=>goP P dst g caps (φ.md g) at_.toList args.toList ts (false,[]) fun _=>.ret ()
  | [(i,t,x)]=>(e6P t x).bind fun hl=>goP P dst g caps (φ.md g) at_.toList args.toList ts hl.2 fun outs=>e6Q t hl.1 (outs.getD i (false,[]))
  | _=>.fail).run φ σ1 L1=some ((),σ',L'):=h2
 clear h2
 generalize hmd:φ.md g=md at h2'
 obtain ⟨ts,σ2,L2,h3,h4⟩:=run_bind h2'
 obtain ⟨G1,hG1,hlen,hgood1,hlow,_,hts⟩:=b8T φ args.toList md at_.toList 0 σ1 G hG (fun z _=>hp z) h3
 have hcf1:=hcf.good hgood1
 have hlent:=c1h args.toList md 0
 have hget:∀ (j:Nat) x,args.toList[j]?=some x→∃ row,ts[j]?=some row:=fun j x hj=>by
  have:j < ts.length:=by rw [hlen];exact (List.getElem?_eq_some_iff.1 hj).1
  exact ⟨_,List.getElem?_eq_getElem this⟩
 split at h4
 ·rename_i hnone
  have hh:Hdr σ2 G1 fun _=>noG:=⟨(fun i p ad c e=>by cases e),(fun i p i' p' ad c ad' c' e=>by cases e)⟩
  have hag:∀ j,K3 G1 (fun _=>noG) j=G1 (park (j+1)):=fun j=>funext fun p=>rfl
  refine b8V hφ hG1 hh hcf1 hlen (fun j x row hj hrow hm=>?_) (fun j x hj hm=>?_) h4 (fun outs v δ w' rows vals rs σ3 L3 L4 hg hr _ hk=>?_) hK
  ·rw [hag]
   have:=(hts j x row hj hrow).1 hm
   rw [Nat.zero_add] at this
   exact this
  ·have:=hlent.2 j x hj hm
   rw [hnone] at this
   cases this
  ·have:=g7 (φ:=φ) hk
   simp only [Prod.mk.injEq,true_and] at this
   obtain ⟨rfl,rfl⟩:=this
   exact ⟨_,hG1.called hh 0 (fun i p y e=>by cases e) hg hr (fun p ad c e=>by cases e),d0m⟩
 ·rename_i i t x hone
  obtain ⟨j0,hj0,hxi,hti,ht12⟩:=hlent.1 (i,t,x) (by rw [hone];exact List.mem_singleton.2 rfl)
  simp only [Nat.zero_add] at hj0
  subst hj0
  have honly:∀ (j:Nat) y,args.toList[j]?=some y→md.getD j 0=1∨md.getD j 0=2→j=i:=fun j y hj hm=>by
   have:=hlent.2 j y hj hm
   rw [hone,List.mem_singleton] at this
   simp only [Prod.mk.injEq] at this
   omega
  obtain ⟨rowt,hrowt⟩:=hget i x hxi
  have hpi:G1 (park (i+1))=noG:=by
   have:=(hts i x rowt hxi hrowt).2 (by rw [hti];omega)
   rw [Nat.zero_add] at this
   exact this
  obtain ⟨hl,σ3,L3,h5,h6⟩:=run_bind h4
  rcases ht12 with rfl | rfl
  ·-- a row is lent
   have h5':((a2i x).bind fun row=>o4 (!row.2.isEmpty&&a3M (row.2.flatMap a0Y)) ((a0a c3N row.2).bind fun cs=>.ret (row,(row.1,cs)))).run φ σ2 L2=some (hl,σ3,L3):=h5
   obtain ⟨row,σ4,L4,h7,h8⟩:=run_bind h5'
   obtain ⟨rfl,hrow⟩:=Q3 hG1 h7
   obtain ⟨hpo,h9⟩:=j9 h8
   obtain ⟨cs,σ5,L5,h10,h11⟩:=run_bind h9
   have:=g7 h11
   simp only [Prod.mk.injEq] at this
   obtain ⟨rfl,rfl,rfl⟩:=this
   obtain ⟨ag,l⟩:=row
   simp only at hpo h10 hrow h6
   simp only [Bool.and_eq_true,Bool.not_eq_true',List.isEmpty_eq_false_iff] at hpo
   obtain ⟨hne,hpo⟩:=hpo
   obtain ⟨vs,hc0,back⟩:=hrow.cs hne
   have hcells:=hc0.2
   obtain ⟨G2,hG2,hl2,hgood2,hpk2,hcs2,_,hdis,_⟩:=b3H φ (i+1) vs l 0 σ4 G1 hG1 (fun j c hj=>by rw [Nat.zero_add];exact hcells j c hj) (fun k _ q=>by rw [hpi];rfl) hpo h10
   simp only [Nat.zero_add] at hcs2
   have hat:∀ (j:Nat) c,l[j]?=some c→∃ u t,cs[j]?=some (.tr true t)∧vs[j]?=some u∧RelOwn w t (V5 G2 (i+1) j c) u∧G2 (park (i+1)) [0,j]=none∧∀ r ver p m s n,c=.ref r ver p m s n→notPark r∧p≠[]∧rowsAt (σ3.get r).rows p=some (.lent m n)∧∃ f,t=.arr m n f:=fun j c hj=>by
    have hlt:j < cs.length:=by rw [hl2];exact (List.getElem?_eq_some_iff.1 hj).1
    obtain ⟨u,t,c0,k1,k2,k3,k4,k5,k6⟩:=hcs2 j _ (List.getElem?_eq_getElem hlt)
    rw [hj] at k1
    obtain rfl:=Option.some.inj k1
    exact ⟨u,t,by rw [List.getElem?_eq_getElem hlt,k3],k2,k4,k5,k6⟩
   have hh:Hdr σ3 G2 (P0 i (a4K G2 l)):=by
    refine ⟨fun i' p ad c e=>?_,fun i1 p1 i2 p2 ad c ad' c' e1 e2 hb=>?_⟩
    ·obtain ⟨_,e'⟩:=O0 e
     obtain ⟨k,r,ver,q,m,s,n,rfl,hk,hg⟩:=a9t e'
     obtain ⟨u,t,_,_,_,_,hh⟩:=hat k _ hk
     obtain ⟨hnp,hqne,hlat,_⟩:=hh _ _ _ _ _ _ rfl
     exact ⟨r,q,hnp,hg,fun m' n' f' h'=>(by rw [hlat] at h';cases h'),fun t' _ e'=>absurd e' hqne⟩
    ·obtain ⟨x1,y1⟩:=O0 e1
     obtain ⟨x2,y2⟩:=O0 e2
     obtain ⟨k,r,ver,q,m,s,n,rfl,hk,hg⟩:=a9t y1
     obtain ⟨k',r',ver',q',m',s',n',rfl,hk',hg'⟩:=a9t y2
     obtain ⟨rfl,rfl⟩:=hG2.inj _ _ _ _ _ _ _ _ hg hg' hb
     rw [hdis k k' _ _ _ _ _ _ _ _ _ _ hk hk',x1,x2]
     exact ⟨rfl,rfl⟩
   have hcell:∀ (j:Nat) c,l[j]?=some c→(fun q=>K3 G2 (P0 i (a4K G2 l)) i (0::j::q))=V5 G2 (i+1) j c:=fun j c hj=>by
    obtain ⟨u,t,_,_,_,hnone,_⟩:=hat j c hj
    funext q
    rw [b8W]
    unfold V5
    split
    ·rename_i e
     subst e
     rw [hnone,Option.or_none]
     unfold a4K
     simp only [hj]
     cases c <;> rfl
    ·rename_i e
     rw [c1j e]
     rfl
   have hargs:∀ E' G' V',i7 E' G' V' w (fun k q=>K3 G2 (P0 i (a4K G2 l)) i (0::k::q)) (ag,cs) (a.eval x):=fun E' G' V'=>by
    refine back _ _ _ _ _ _ hl2 ⟨by rw [hl2];exact hc0.1,fun k c hk=>?_⟩
    obtain ⟨u,t,c0,k1,k2,k3,k4,_⟩:=hcs2 k c hk
    subst k3
    refine ⟨u,k2,?_⟩
    show RelOwn w t (fun q=>K3 G2 (P0 i (a4K G2 l)) i (0::k::q)) u
    rw [hcell k c0 k1]
    exact k4
   refine b8V hφ hG2 hh (hcf1.good hgood2) hlen (fun j y row' hj hrow' hm=>?_) (fun j y hj hm=>?_) h6 (fun outs v δ w' rows vals rs σ6 L6 L7 hg hr hrows hk=>?_) hK
   ·have hne:j≠i:=by
     rintro rfl
     rw [hti] at hm
     cases hm
    rw [c4a hne]
    have:=(hts j y row' hj hrow').1 hm
    rw [Nat.zero_add] at this
    have e:G2 (park (j+1))=G1 (park (j+1)):=funext fun q=>hpk2 _ _ fun e=>hne (by have:=e.1;omega)
    rw [e]
    exact this
   ·obtain rfl:=honly j y hj hm
    rw [hxi] at hj
    obtain rfl:=Option.some.inj hj
    rw [hti]
    unfold ArgOk
    rw [if_pos (.inl rfl)]
    refine ⟨fun k c hk=>?_,hargs⟩
    obtain ⟨u,t,c0,_,_,k3,_⟩:=hcs2 k c hk
    exact ⟨t,k3⟩
   ·have hk':((o4 (ag==(outs.getD i (false,[])).1) (b5m l (outs.getD i (false,[])).2)).run φ σ3 L6)=some ((),σ6,L7):=hk
    obtain ⟨k1,k2⟩:=hrows i x hxi (.inl hti)
    rw [hti] at k1
    obtain ⟨o,u,k3,k4,k5⟩:=hr.out i _ k1
    rw [k2] at k4
    obtain rfl:=Option.some.inj k4
    have ho:outs.getD i (false,[])=o:=by rw [List.getD_eq_getElem?_getD,k3];rfl
    rw [ho] at hk'
    unfold OutOk at k5
    rw [if_pos rfl] at k5
    obtain ⟨hown,hrel⟩:=k5
    obtain ⟨hag,hk2⟩:=j9 hk'
    obtain ⟨oag,ol⟩:=o
    have hag:ag=oag:=by simpa using hag
    subst hag
    obtain ⟨hol,hshape⟩:=b8Q (E:=E) φ l ol σ3 hk2
    have hcsne:cs≠[]:=fun e=>by rw [e] at hl2;exact hne (List.eq_nil_of_length_eq_zero hl2.symm)
    obtain ⟨vs',hc1,hc2⟩:=i7.same (hargs E gg0 vv0) (hrel E gg0 vv0) (hol.trans hl2.symm) hcsne
    have hboth:∀ (k:Nat) r ver q m s n,l[k]?=some (.ref r ver q m s n)→∃ f f' u',notPark r∧rowsAt (σ3.get r).rows q=some (.lent m n)∧ol[k]?=some (.tr true (.arr m n f'))∧RelOwn w' (.arr m n f') (fun q=>δ (i+1) (0::k::q)) u'∧RelOwn w (.arr m n f) (V5 G2 (i+1) k (.ref r ver q m s n)) u':=fun k r ver q m s n hk=>by
     obtain ⟨u,t,h12,h13,h14,h15,h16⟩:=hat k _ hk
     obtain ⟨hnp,hqne,hlat,f,rfl⟩:=h16 _ _ _ _ _ _ rfl
     obtain ⟨f',hf'⟩:=hshape k _ _ _ _ _ _ hk
     obtain ⟨u1,g1,g2⟩:=hc1.2 k _ h12
     obtain ⟨u2,g3,g4⟩:=hc2.2 k _ hf'
     rw [g1] at g3
     obtain rfl:=Option.some.inj g3
     have g5:RelOwn w (.arr m n f) (fun q=>K3 G2 (P0 i (a4K G2 l)) i (0::k::q)) u1:=g2
     rw [hcell k _ hk] at g5
     exact ⟨f,f',u1,hnp,hlat,hf',g4,g5⟩
    have hheq:∀ (k:Nat) r ver q m s n,l[k]?=some (.ref r ver q m s n)→δ (i+1) [0,k]=G2 r q:=fun k r ver q m s n hk=>by
     obtain ⟨f,f',u',_,_,_,g1,g2⟩:=hboth k r ver q m s n hk
     exact (f0P g2 g1).trans (by simp [V5])
    have hcalled:=hG2.called hh i (fun i' p y e=>(O0 e).1) hg hr (fun p ad c e=>by
     obtain ⟨_,e'⟩:=O0 e
     obtain ⟨k,r,ver,q,m,s,n,rfl,hk,hgg⟩:=a9t e'
     rw [hheq k _ _ _ _ _ _ hk]
     exact hgg)
    obtain ⟨G',hG',_,hpk'⟩:=b8R φ (i+1) l ol 0 σ3 _ hcalled hpo (fun j r ver q m s n hj=>by
     obtain ⟨f,f',u',hnp,hlat,h12,g1,g2⟩:=hboth j r ver q m s n hj
     refine ⟨hnp,hlat,f',u',h12,?_⟩
     have:V5 (b1G G2 (P0 i (a4K G2 l)) δ i) (i+1) (0+j) (.ref r ver q m s n)=fun q=>δ (i+1) (0::j::q):=by
      funext q'
      rw [Nat.zero_add]
      unfold V5
      split
      ·rename_i e
       subst e
       rw [hheq j _ _ _ _ _ _ hj]
       exact congrFun (c5I hnp) q
      ·rename_i e
       rw [d9f]
       simp only [P0,if_true,c1j e]
       rfl
     rw [this]
     exact g1) hdis hk2
    exact ⟨G',hG',by rw [hpk' 0 (by omega)];exact d0m⟩
  ·-- a variable is lent
   have h5':((C0 x).bind fun c=>(c9z c).bind fun row=>.ret ((false,[c]),row)).run φ σ2 L2=some (hl,σ3,L3):=h5
   obtain ⟨c,σ4,L4,h7,h8⟩:=run_bind h5'
   obtain ⟨rfl,hc⟩:=o7 hG1 h7
   obtain ⟨row,σ5,L5,h9,h10⟩:=run_bind h8
   obtain ⟨t0,ver,m,b,vs,e,rfl,rfl,hhas,hG2,hgood2,hm,hv,hgb,hwb,hall,hrow⟩:=d3K hG1 φ (i+1) hc h9
   have:=g7 h10
   simp only [Prod.mk.injEq] at this
   obtain ⟨rfl,rfl,rfl⟩:=this
   simp only at h6
   have hnp:=J1 t0
   have hb2:ldG G1 (box t0) [] (park (i+1)) [] (box t0) []=some (⟨b,0,none⟩,1):=by
    rw [C4 (fun e=>l5 hnp (i+1) e.1) (fun e=>e.2.2 rfl)]
    exact hgb
   have hsub:∀ k q,ldG G1 (box t0) [] (park (i+1)) [] (park (i+1)) (0::k::q)=G1 (box t0) (0::k::q):=fun k q=>c3Z G1 (box t0) [] (park (i+1)) [] (q:=0::k::q) (by simp)
   generalize hGe:ldG G1 (box t0) [] (park (i+1)) []=G2 at *
   let hd:Gh:=fun p=>if p=[] then some (⟨b,0,none⟩,1) else none
   have hd0:∀ p y,hd p=some y→p=[]∧y=(⟨b,0,none⟩,1):=fun p y e=>by
    simp only [hd] at e
    split at e
    ·exact ⟨‹_›,(Option.some.inj e).symm⟩
    ·cases e
   have hrows0:((σ4.set (box t0) ⟨E0 [] (σ4.get (box t0)).ver,[]⟩).get (box t0)).rows=[]:=by rw [n9,if_pos ⟨rfl,hhas⟩]
   have hh:Hdr (σ4.set (box t0) ⟨E0 [] (σ4.get (box t0)).ver,[]⟩) G2 (P0 i hd):=by
    refine ⟨fun i' p ad c' e=>?_,fun i1 p1 i2 p2 ad c' ad' c'' e1 e2 hbb=>?_⟩
    ·obtain ⟨_,e'⟩:=O0 e
     obtain ⟨_,e2⟩:=hd0 _ _ e'
     cases e2
     exact ⟨box t0,[],hnp,hb2,fun m' n' f' h'=>by simp [rowsAt] at h',fun t' e3 _=>hrows0⟩
    ·obtain ⟨x1,y1⟩:=O0 e1
     obtain ⟨x2,y2⟩:=O0 e2
     exact ⟨x1.trans x2.symm,(hd0 _ _ y1).1.trans (hd0 _ _ y2).1.symm⟩
   have hag0:K3 G2 (P0 i hd) i []=some (⟨b,0,none⟩,1):=by
    rw [b8W]
    simp [hd]
   have hags:∀ k q,K3 G2 (P0 i hd) i (0::k::q)=G1 (box t0) (0::k::q):=fun k q=>by
    rw [b8W,← hsub]
    simp [hd]
   refine b8V hφ hG2 hh (hcf1.good hgood2) hlen (fun j y row' hj hrow' hm'=>?_) (fun j y hj hm'=>?_) h6 (fun outs v δ w' rows vals rs σ6 L6 L7 hg hr hrows hk=>?_) hK
   ·have hne:j≠i:=by
     rintro rfl
     rw [hti] at hm'
     cases hm'
    rw [c4a hne]
    have:=(hts j y row' hj hrow').1 hm'
    rw [Nat.zero_add] at this
    have e:G2 (park (j+1))=G1 (park (j+1)):=by
     rw [← hGe]
     exact funext fun q=>C4 (fun e=>hne (by have:=O5 e.1;omega)) (fun e=>l5 hnp (j+1) e.1.symm)
    rw [e]
    exact this
   ·obtain rfl:=honly j y hj hm'
    rw [hxi] at hj
    obtain rfl:=Option.some.inj hj
    rw [hti]
    unfold ArgOk
    rw [if_neg (by simp),if_pos rfl]
    refine ⟨hall,b,vs,e,hv,hag0,hwb,fun E' G' V'=>?_⟩
    have:(fun (k:Nat) (q:Path)=>K3 G2 (P0 j hd) j (0::k::q))=fun k q=>G1 (box t0) (0::k::q):=by
     funext k q
     exact hags k q
    rw [this]
    exact hrow E' G' V'
   ·obtain ⟨k1,k2⟩:=hrows i x hxi (.inr hti)
    rw [hti] at k1
    obtain ⟨o,u,k3,k4,k5⟩:=hr.out i _ k1
    rw [k2] at k4
    obtain rfl:=Option.some.inj k4
    have ho:outs.getD i (false,[])=o:=by rw [List.getD_eq_getElem?_getD,k3];rfl
    rw [ho] at hk
    unfold OutOk at k5
    rw [if_neg (by simp),if_pos rfl] at k5
    obtain ⟨_,b',vs',e',hv',hδ,hw',hcs'⟩:=k5
    rw [hv] at hv'
    simp only [Value.pointer.injEq,Option.some.injEq,Addr.mk.injEq,and_true] at hv'
    subst hv'
    have hcalled:=hG2.called hh i (fun i' p y e=>(O0 e).1) hg hr (fun p ad c e=>by
     obtain ⟨_,e'⟩:=O0 e
     obtain ⟨rfl,e2⟩:=hd0 _ _ e'
     cases e2
     exact hδ)
    have hk':(c9A (.pt (.ptr (box t0) ver [] m 0 0)) o).run φ (σ4.set (box t0) ⟨E0 [] (σ4.get (box t0)).ver,[]⟩) L6=some ((),σ6,L7):=hk
    obtain ⟨G',hG',hpk'⟩:=d3L (vs:=vs') (e:=e') hcalled φ (i+1) (by rw [c5I hnp];exact hb2) hw' (fun E' G' V'=>by
     have:(fun (k:Nat) (q:Path)=>b1G G2 (P0 i hd) δ i (park (i+1)) (0::k::q))=fun k q=>δ (i+1) (0::k::q):=by
      funext k q
      rw [d9f]
      simp [P0,hd]
     rw [this]
     exact hcs' E' G' V') hk'
    exact ⟨G',hG',by rw [hpk' 0 (by omega)];exact d0m⟩
 ·exact (i5 h4).elim
end
end Go.Mach
namespace Go.Mach
section
variable {P:Program} {φ:Sems} {a:Act} {w:World}
/-- Only a block was written. -/
structure WroteB (w w':World) (b:Nat):Prop where
 os:w'.os=w.os
 tape:w'.tape=w.tape
 output:w'.output=w.output
 size:w'.heap.size=w.heap.size
 other:∀ b',b'≠b→w'.heap[b']?=w.heap[b']?
theorem WroteB.refl (w:World) (b:Nat):WroteB w w b:=⟨rfl,rfl,rfl,rfl,fun _ _=>rfl⟩
theorem WroteB.trans {w w' w'':World} {b:Nat} (h:WroteB w w' b) (k:WroteB w' w'' b):WroteB w w'' b :=
 ⟨k.os.trans h.os,k.tape.trans h.tape,k.output.trans h.output,k.size.trans h.size,fun b' hb=>(k.other b' hb).trans (h.other b' hb)⟩
theorem Wrote.toB {w w':World} {b o:Nat} {u:Value} (h:Wrote w w' b o u):WroteB w w' b:=⟨h.os,h.tape,h.output,h.size,h.other⟩
/-- A root's content is told anew, in a world that was written in one of the root's blocks. -/
theorem Rel.rootB {E σ G G' w'} (h:Rel E σ a w G) (r:Nat) (hnp:notPark r) (rows:List Row) (V':Ver) {b p ad c} (hw:WroteB w w' b) (hob:G r p=some (ad,c)) (hab:ad.block=b) (hi:a1M G') (hr:a3a E w G') (hG:∀ r',notPark r'→r'≠r→G' r'=G r')
  (hv:∀ p,(σ.get r).ver p≤V' p∧(V' p=(σ.get r).ver p→G' r p=G r p)) (h0:G' r []=G r [])
  (hs:∀ t,r=slot t→RelRows E G σ.V w' (G' r) rows (a.tmps.getD t undef)) (hb:∀ t,r=box t→B6 E G σ.V w' (G' r) rows) (hx:∀ t,r=ext t→RelRows E G σ.V w' (G' r) rows (E.x t)) (hhas:σ.has r=true) :
  Rel E (σ.set r ⟨V',rows⟩) a w' G'∧u7 G σ.V G' (σ.set r ⟨V',rows⟩).V:=by
 have hg:u7 G σ.V G' (σ.set r ⟨V',rows⟩).V:=by
  intro r' hr' p
  simp only [St.V,n9,hhas,and_true]
  by_cases e:r=r'
  ·subst e
   simp only [if_true]
   exact hv p
  ·simp [e,hG r' hr' (fun x=>e x.symm)]
 have hget:∀ r',r'≠r→(σ.set r ⟨V',rows⟩).get r'=σ.get r':=fun r' hne=>by
  rw [n9,if_neg fun x=>hne x.1.symm]
 have hself:(σ.set r ⟨V',rows⟩).get r=⟨V',rows⟩:=by rw [n9,if_pos ⟨rfl,hhas⟩]
 have hne:∀ r',r'≠r→∀ q ad' c',G r' q=some (ad',c')→w'.heap[ad'.block]?=w.heap[ad'.block]?:=fun r' hr' q ad' c' hq=>hw.other _ fun e=>hr' (h.inj _ _ _ _ _ _ _ _ hq hob (e.trans hab.symm)).1
 refine ⟨{ nd:=by rw [E1];exact h.nd,inj:=hi,rng:=fun r p ad c hg=>by rw [hw.size];exact hr r p ad c hg,os:=hw.os.trans h.os,tape:=hw.tape.trans h.tape,output:=hw.output.trans h.output,size:=by rw [hw.size];exact h.size,kept:=fun b' hb'=>(hw.other _ fun e=>?_).trans (h.kept b' hb'),slots:=fun t=>?_,boxes:=fun t=>?_,exts:=fun t=>?_,xbox:=fun t ht=>?_,defers:=h.defers,tm:=h.tm,here:=fun t ht=>h.here t (by rw [R5] at *;rwa [E1] at ht) },hg⟩
 ·have:=(h.rng _ _ _ _ hob).1
  rw [hab,← e] at this
  rcases this with h1 | h1
  ·have:=hb'.1;omega
  ·exact hb'.2 h1
 ·by_cases e:slot t=r
  ·rw [e,hself]
   exact (hs t e.symm).good hg
  ·rw [hget _ e,hG _ (a8e t) e]
   exact ((h.slots t).ext (hne _ e)).good hg
 ·by_cases e:box t=r
  ·rw [e,hself]
   exact (hb t e.symm).good hg
  ·rw [hget _ e,hG _ (J1 t) e]
   refine B6.good hg ?_
   rcases h.box' t with h0 | ⟨row,b',cs,e',h1,h2,h3,h4⟩
   ·exact .inl h0
   ·exact .inr ⟨row,b',cs,e',h1,h2,(hne _ e _ _ _ h2).trans h3,h4.ext fun k p ad c hp=>hne _ e _ _ _ hp⟩
 ·by_cases e:ext t=r
  ·rw [e,hself]
   exact (hx t e.symm).good hg
  ·rw [hget _ e,hG _ (b1C t) e]
   exact ((h.exts t).ext (hne _ e)).good hg
 ·by_cases e:box t=r
  ·rw [e,h0,← e]
   exact h.xbox t ht
  ·rw [hG _ (J1 t) e]
   exact h.xbox t ht
/-! ### trees -/
theorem d4F:∀ (q:Path) (t x:T),t.at q=some x→t.okAt q=true∧t.get q=x
 | [],t,x,h=>by
  have:T.at t []=some t:=by cases t <;> rfl
  rw [this] at h
  obtain rfl:=Option.some.inj h
  cases t <;> exact ⟨rfl,rfl⟩
 | [_],t,x,h=>by cases t <;> simp [T.at] at h
 | j::k::q,t,x,h=>by
  cases t with
  | arr m n f =>
   simp only [T.at] at h
   cases hb:(Nat.blt j n&&Nat.blt k m) with
   | false=>simp [hb] at h
   | true =>
    simp only [hb,cond_true] at h
    obtain ⟨h1,h2⟩:=d4F q _ _ h
    exact ⟨by simp only [T.okAt,hb,h1,Bool.and_self],h2⟩
  | _=>simp [T.at] at h
theorem a8h (j k:Nat) (v:T) (f:Nat→Nat→T):b7 j k v f j k=v:=by unfold b7;rw [E5,E5];rfl
theorem d9g (j k:Nat) (f:Nat→Nat→T):b7 j k (f j k) f=f:=by
 funext j' k'
 unfold b7
 cases h:(Nat.beq j' j&&Nat.beq k' k) with
 | false=>rfl
 | true =>
  simp only [Bool.and_eq_true] at h
  rw [a9o h.1,a9o h.2]
  rfl
theorem d9h (j k:Nat) (u v:T) (f:Nat→Nat→T):b7 j k v (b7 j k u f)=b7 j k v f:=by
 funext j' k'
 unfold b7
 cases (Nat.beq j' j&&Nat.beq k' k) <;> rfl
theorem b8X:∀ (q:Path) (t:T),t.okAt q=true→t.set q (t.get q)=t
 | [],t,_=>by cases t <;> rfl
 | [_],t,h=>by cases t <;> rfl
 | j::k::q,t,h=>by
  cases t with
  | arr m n f =>
   simp only [T.okAt,Bool.and_eq_true] at h
   simp only [T.set,T.get]
   rw [b8X q _ h.2,d9g]
  | _=>rfl
theorem d0n {m n:Nat} {f:Nat→Nat→T} {j k:Nat} (hj:j < n) (hk:k < m):∀ (q:Path) (t:T),t.okAt q=true→t.get q=.arr m n f→t.okAt (q ++ [j,k])=true
 | [],t,_,h=>by
  have:t=.arr m n f:=by cases t <;> exact h
  subst this
  simp only [List.nil_append,T.okAt,Bool.and_true,Bool.and_eq_true,Nat.blt_eq]
  exact ⟨hj,hk⟩
 | [_],t,h,_=>by cases t <;> simp [T.okAt] at h
 | j'::k'::q,t,h,hg=>by
  cases t with
  | arr m' n' f' =>
   simp only [T.okAt,Bool.and_eq_true] at h
   simp only [List.cons_append,T.okAt,Bool.and_eq_true]
   exact ⟨h.1,d0n hj hk q _ h.2 hg⟩
  | _=>simp [T.okAt] at h
theorem c4b {m n:Nat} {f:Nat→Nat→T} {j k:Nat} (u:T):∀ (q:Path) (t:T),t.okAt q=true→t.get q=.arr m n f→(t.set (q ++ [j,k]) u).at q=some (.arr m n (b7 j k u f))
 | [],t,_,h=>by
  have:t=.arr m n f:=by cases t <;> exact h
  subst this
  simp only [List.nil_append,T.set,T.at]
 | [_],t,h,_=>by cases t <;> simp [T.okAt] at h
 | j'::k'::q,t,h,hg=>by
  cases t with
  | arr m' n' f' =>
   simp only [T.okAt,Bool.and_eq_true] at h
   have hb:(Nat.blt j' n'&&Nat.blt k' m')=true:=by simp only [Bool.and_eq_true];exact h.1
   simp only [List.cons_append,T.set,T.at,hb,cond_true,a8h]
   exact c4b u q _ h.2 hg
  | _=>simp [T.okAt] at h
theorem d0o (u X:T) (l:Path):∀ (q:Path) (t:T),t.okAt q=true→(t.set (q ++ l) u).set q X=t.set q X
 | [],t,_=>by cases (t.set ([] ++ l) u) <;> cases t <;> rfl
 | [_],t,h=>by cases t <;> simp [T.okAt] at h
 | j::k::q,t,h=>by
  cases t with
  | arr m n f =>
   simp only [T.okAt,Bool.and_eq_true] at h
   simp only [List.cons_append,T.set,a8h,d9h]
   rw [d0o u X l q _ h.2]
  | _=>simp [T.okAt] at h
theorem d4G {rows:List Row} {i k:Nat} {q:Path} {x:T} (h:rowsAt rows (i::k::q)=some x) :
  ∃ g cs t0,rows[i]?=some (g,cs)∧cs[k]?=some (.tr true t0)∧t0.okAt q=true∧t0.get q=x∧∀ u l,n8 rows u (i::k::l)=rows.set i (g,cs.set k (.tr true (t0.set l u))):=by
 obtain ⟨i',k',q',g,cs,t0,e,h1,h2,h3⟩:=W0 h
 simp only [List.cons.injEq] at e
 obtain ⟨rfl,rfl,rfl⟩:=e
 obtain ⟨h4,h5⟩:=d4F _ _ _ h3
 exact ⟨g,cs,t0,h1,h2,h4,h5,fun u l=>by simp only [n8,h1,v6,h2]⟩
theorem b7y {rows:List Row} {i k:Nat} {q:Path} {x:T} (h:rowsAt rows (i::k::q)=some x):n8 rows x (i::k::q)=rows:=by
 obtain ⟨g,cs,t0,h1,h2,h4,h5,hs⟩:=d4G h
 rw [hs,← h5,b8X q t0 h4]
 have e1:cs.set k (.tr true t0)=cs:=by
  have hk:=a2Y h2
  rw [List.getElem?_eq_getElem hk] at h2
  rw [← Option.some.inj h2,List.set_getElem_self]
 rw [e1]
 have hi:=a2Y h1
 rw [List.getElem?_eq_getElem hi] at h1
 rw [← Option.some.inj h1,List.set_getElem_self]
theorem d9i {rows:List Row} {i k0:Nat} {q:Path} {m n:Nat} {f:Nat→Nat→T} {j k:Nat} (h:rowsAt rows (i::k0::q)=some (.arr m n f)) (hj:j < n) (hk:k < m) (u:T) :
  C3 rows u (i::k0::(q ++ [j,k]))=some (n8 rows u (i::k0::(q ++ [j,k])))∧rowsAt (n8 rows u (i::k0::(q ++ [j,k]))) (i::k0::q)=some (.arr m n (b7 j k u f)) ∧
  ∀ X,n8 (n8 rows u (i::k0::(q ++ [j,k]))) X (i::k0::q)=n8 rows X (i::k0::q):=by
 obtain ⟨g,cs,t0,h1,h2,h4,h5,hs⟩:=d4G h
 have hi:=a2Y h1
 have hk0:=a2Y h2
 have e0:=hs u (q ++ [j,k])
 have r1:(rows.set i (g,cs.set k0 (.tr true (t0.set (q ++ [j,k]) u))))[i]?=some (g,cs.set k0 (.tr true (t0.set (q ++ [j,k]) u))):=by rw [List.getElem?_set_self hi]
 have r2:(cs.set k0 (.tr true (t0.set (q ++ [j,k]) u)))[k0]?=some (.tr true (t0.set (q ++ [j,k]) u)):=by rw [List.getElem?_set_self hk0]
 refine ⟨?_,?_,fun X=>?_⟩
 ·exact (a7r (p:=i::k0::(q ++ [j,k])) (by simp only [K4,h1,h2];exact d0n hj hk q t0 h4 h5)).2 u
 ·rw [e0]
  simp only [rowsAt,r1,r2]
  exact c4b u q t0 h4 h5
 ·rw [e0,hs X q]
  simp only [n8,r1,v6,r2,List.set_set]
  rw [d0o u X _ q t0 h4]
/-- As many cells ags 'c' are others, from cell x on. -/
def b3I (m x c:Nat) (g:Nat→Nat→T) (f:Nat→Nat→T) (j k:Nat):T:=bif Nat.blt k m&&(Nat.ble x (j*m+k)&&Nat.blt (j*m+k) (x+c)) then g j k else f j k
theorem c0G (a b:Nat):Nat.blt a b=decide (a < b):=by
 by_cases h:a < b
 ·rw [decide_eq_true h,Nat.blt_eq];exact h
 ·rw [decide_eq_false h]
  cases hb:Nat.blt a b with
  | false=>rfl
  | true=>rw [Nat.blt_eq] at hb;exact absurd hb h
theorem c0H (a b:Nat):Nat.ble a b=decide (a≤b):=by
 by_cases h:a≤b
 ·rw [decide_eq_true h,Nat.ble_eq];exact h
 ·rw [decide_eq_false h]
  cases hb:Nat.ble a b with
  | false=>rfl
  | true=>rw [Nat.ble_eq] at hb;exact absurd hb h
theorem c2w {m x c:Nat} {g f:Nat→Nat→T} {j k:Nat}:b3I m x c g f j k=if k < m∧x≤j*m+k∧j*m+k < x+c then g j k else f j k:=by
 unfold b3I
 rw [c0G,c0H,c0G,← Bool.decide_and,← Bool.decide_and,Bool.cond_decide]
theorem c4c (m x:Nat) (g f:Nat→Nat→T):b3I m x 0 g f=f:=by
 funext j k
 rw [c2w,if_neg (by omega)]
theorem d7p {m x c:Nat} (hm:0 < m) (g f:Nat→Nat→T):b3I m (x+1) c g (b7 (x / m) (x % m) (g (x / m) (x % m)) f)=b3I m x (c+1) g f:=by
 funext j k
 rw [c2w,c2w]
 have hx:x / m*m+x % m=x:=Nat.div_add_mod' x m
 by_cases h1:k < m∧x+1≤j*m+k∧j*m+k < x+1+c
 ·rw [if_pos h1,if_pos (by omega)]
 ·rw [if_neg h1]
  by_cases h2:j=x / m∧k=x % m
  ·obtain ⟨rfl,rfl⟩:=h2
   rw [a8h,if_pos ⟨Nat.mod_lt _ hm,by omega,by omega⟩]
  ·have e:b7 (x / m) (x % m) (g (x / m) (x % m)) f j k=f j k:=by
    unfold b7
    cases hb:(Nat.beq j (x / m)&&Nat.beq k (x % m)) with
    | false=>rfl
    | true =>
     simp only [Bool.and_eq_true] at hb
     exact absurd ⟨a9o hb.1,a9o hb.2⟩ h2
   rw [e,if_neg]
   rintro ⟨a1,a2,a3⟩
   have:j*m+k=x:=by
    by_cases h3:x+1≤j*m+k
    ·exact absurd ⟨a1,h3,by omega⟩ h1
    ·omega
   exact h2 (d4A a1 (Nat.mod_lt _ hm) (this.trans hx.symm))
theorem f0Q {Φ:World→Gh→List Row→Prop} {i0 k0:Nat} {q0:Path} {m n b off cap o:Nat} (hm:0 < m)
  (hstep:∀ {w w':World} {g g':Gh} {rows rows':List Row} {j k:Nat} {u:Value} {t:T} {f:Nat→Nat→T},Φ w g rows→C3 rows t (i0::k0::(q0 ++ [j,k]))=some rows'→rowsAt rows (i0::k0::q0)=some (.arr m n f)→StG w w' g g' (i0::k0::q0) j k m off b cap u t→Φ w' g' rows')
  (g0:Nat→Nat→T):∀ (vs:List Value) (x i:Nat) (w:World) (g:Gh) (rows:List Row) (f:Nat→Nat→T),Φ w g rows→rowsAt rows (i0::k0::q0)=some (.arr m n f)→x+vs.length≤n*m→g (i0::k0::q0)=some (⟨b,off,none⟩,cap) →
  (∀ q ad c,g q=some (ad,c)→ad.block=b→q=i0::k0::q0)→(∃ cs e,w.heap[b]?=some (.cells cs e (0,0))∧off+n*m≤cs.size)→o+i=off+x→(∀ y u,vs[y]?=some u→∀ w',RelOwn w' (g0 ((x+y) / m) ((x+y) % m)) noG u) →
  ∃ w' g',(storeCells ⟨b,o,none⟩ vs i).run P w=.ok () w'∧WroteB w w' b∧Φ w' g' (n8 rows (.arr m n (b3I m x vs.length g0 f)) (i0::k0::q0))∧(∀ q,(∀ j k,¬ (i0::k0::q0 ++ [j,k]) <+: q)→g' q=g q)∧∀ q y,g' q=some y→g q=some y
 | [],x,i,w,g,rows,f,hΦ,hat,_,_,_,_,_,_=>by
  refine ⟨w,g,rfl,WroteB.refl _ _,?_,fun _ _=>rfl,fun _ _ h=>h⟩
  rw [List.length_nil,c4c,b7y hat]
  exact hΦ
 | u::vs,x,i,w,g,rows,f,hΦ,hat,hle,hg,honly,⟨cs,e,hcs,hsz⟩,ho,hrel=>by
  rw [List.length_cons] at hle
  have hxm:x / m*m+x % m=x:=Nat.div_add_mod' x m
  have hk:x % m < m:=Nat.mod_lt _ hm
  have hj:x / m < n:=by
   refine Nat.div_lt_of_lt_mul ?_
   rw [Nat.mul_comm]
   omega
  have h0:=hrel 0 u rfl
  rw [Nat.add_zero] at h0
  obtain ⟨hp,hat1,hover⟩:=d9i hat hj hk (g0 (x / m) (x % m))
  have hW:=b0x w b (off+(x / m*m+x % m)) u
  rw [hxm] at hW
  have hst:StG w (w.setCell ⟨b,off+x,none⟩ u) g (fun q=>if (i0::k0::q0 ++ [x / m,x % m]) <+: q then none else g q) (i0::k0::q0) (x / m) (x % m) m off b cap u (g0 (x / m) (x % m)):=by
   refine ⟨hg,by rw [hxm];exact hW,honly,fun q hq=>if_neg hq,?_⟩
   have:(fun q=>(if (i0::k0::q0 ++ [x / m,x % m]) <+: (i0::k0::q0 ++ x / m::x % m::q) then none else g (i0::k0::q0 ++ x / m::x % m::q):Option (Addr × Nat)))=noG:=by
    funext q
    rw [if_pos]
    ·rfl
    ·rw [List.prefix_append_right_inj]
     exact ⟨q,rfl⟩
   rw [this]
   exact h0 _
  have hΦ1:=hstep hΦ hp hat hst
  have hcs1:=hW.here cs e hcs
  obtain ⟨w',g',hrun,hw',hΦ',hout,hin⟩:=f0Q (o:=o) hm hstep g0 vs (x+1) (i+1) _ _ _ _ hΦ1 hat1 (by omega) (by
   show (if _ then none else g _)=_
   rw [if_neg]
   ·exact hg
   ·intro hp
    have:=hp.length_le
    simp at this
    omega) (fun q ad c hq hb=>by
   have:(if (i0::k0::q0 ++ [x / m,x % m]) <+: q then none else g q)=some (ad,c):=hq
   split at this
   ·cases this
   ·exact honly q ad c this hb) ⟨_,e,hcs1,by simpa using hsz⟩ (by omega) (fun y u' hy w'=>by
   have:=hrel (y+1) u' (by simpa using hy) w'
   rw [show x+1+y=x+(y+1) by omega]
   exact this)
  refine ⟨w',g',?_,hW.toB.trans hw',?_,fun q hq=>?_,fun q y hq=>?_⟩
  ·have hadd:(⟨b,o,none⟩:Addr).add i=⟨b,off+x,none⟩:=by rw [Y7,ho]
   have hlt:off+x < cs.size:=by omega
   have hone:u.oneCell'=true:=(show l4 ⟨w,fun _=>True,0,fun _=>undef,fun _=>none⟩ (fun _=>noG) (fun _=>z0) w noG (.tr true (g0 (x / m) (x % m))) u from h0 w).one
   simp only [storeCells,Sem.run_bind,hadd,c3X hone hcs (Array.getElem?_eq_getElem hlt),Result.andThen_ok,hrun]
  ·rw [hover,d7p hm] at hΦ'
   exact hΦ'
  ·rw [hout q hq]
   exact if_neg (hq _ _)
  ·have h1:=hin q y hq
   have:(if (i0::k0::q0 ++ [x / m,x % m]) <+: q then none else g q)=some y:=h1
   split at this
   ·cases this
   ·exact this
theorem d0p {m s c:Nat} (hm:0 < m) (g f:Nat→Nat→T):Z8 m s c g f=b3I m (s*m) (c*m) g f:=by
 funext j k
 unfold Z8 b3I
 cases hk:Nat.blt k m with
 | false=>rfl
 | true =>
  rw [Nat.blt_eq] at hk
  rw [c0H,c0G,c0H,c0G]
  have e1:(s≤j)↔s*m≤j*m+k:=by
   constructor
   ·intro h
    have:=Nat.mul_le_mul_right m h
    omega
   ·intro h
    by_cases h2:s≤j
    ·exact h2
    ·have:(j+1)*m≤s*m:=Nat.mul_le_mul_right m (by omega)
     rw [Nat.add_mul] at this
     omega
  have e2:(j < s+c)↔j*m+k < s*m+c*m:=by
   rw [← Nat.add_mul]
   constructor
   ·intro h
    have:(j+1)*m≤(s+c)*m:=Nat.mul_le_mul_right m (by omega)
    rw [Nat.add_mul j 1] at this
    omega
   ·intro h
    by_cases h2:j < s+c
    ·exact h2
    ·have:=Nat.mul_le_mul_right m (Nat.le_of_not_lt h2)
     omega
  rw [decide_eq_decide.2 e1,decide_eq_decide.2 e2]
/-- A part of an array is written: what it holds is told by 'g'. -/
theorem c4d {E σ G} (h:Rel E σ a w G) {r ver:Nat} {p:Path} {m s n c:Nat} {v:Value} (hr:l4 E G σ.V w noG (.ref r ver p m s n) v) (hcn:c≤n) (hm:0 < m) {g:Nat→Nat→T} (vs:List Value) (hvs:vs.length=c*m)
  (hrel:∀ j k,j < c→k < m→∃ u,vs[j*m+k]?=some u∧∀ w',RelOwn w' (g (s+j) k) noG u) {k:Pr Unit} {L y} (hrun:(c0z r ver p m s c g k).run φ σ L=some y) :
  ∃ A cap w' G' σ1 L1,v=.slice A n cap∧(c=0→w'=w)∧(0 < c→∃ b o,A=some ⟨b,o,none⟩∧(storeCells ⟨b,o,none⟩ vs 0).run P w=.ok () w')∧Rel E σ1 a w' G'∧u7 G σ.V G' σ1.V∧(∀ y,G' (park y)=G (park y))∧k.run φ σ1 L1=some y:=by
 obtain ⟨A,cap,rfl,hn,⟨hnp,hpne⟩,hle,hval⟩:=hr
 simp only [c0z,O6] at hrun
 obtain ⟨m0,n0,f,hat,hput,hrun1⟩:=W4 hrun
 replace hrun1:=j9 hrun1
 obtain ⟨hb,hrun2⟩:=hrun1
 simp only [Bool.and_eq_true] at hb
 obtain ⟨⟨hver,hm0⟩,hsc⟩:=hb
 have hver:=j8 hver
 have hm0:=j8 hm0
 subst hm0
 have hsc:=Nat.le_of_ble_eq_true hsc
 obtain ⟨hhas,hrun⟩:=a4I hrun2
 obtain ⟨i0,k0,q0,hpe⟩:∃ i0 k0 q0,p=i0::k0::q0:=by
  obtain ⟨i0,k0,q0,_,_,_,e,_⟩:=W0 hat
  exact ⟨i0,k0,q0,e⟩
 have hV:∀ p',(σ.get r).ver p'≤E0 p (σ.get r).ver p':=fun p'=>b1A _ _ _
 rcases Nat.eq_zero_or_pos c with hc | hc
 ·subst hc
  have hrows:n8 (σ.get r).rows (.arr m0 n0 (Z8 m0 s 0 g f)) p=(σ.get r).rows:=by
   rw [d0p hm,Nat.zero_mul,c4c]
   subst hpe
   exact b7y hat
  rw [hrows] at hrun
  obtain ⟨h1,h2⟩:=h.rootV r hnp (σ.get r).rows (E0 p (σ.get r).ver) h.inj h.rng (fun _ _ _=>rfl) (fun p'=>⟨hV p',fun _=>rfl⟩)
   (fun t e=>by subst e;exact h.slots t) (fun t e=>by subst e;exact ⟨h.box' t,h.xbox t⟩) (fun t e=>by subst e;exact h.exts t) hhas
  exact ⟨A,cap,w,G,_,_,rfl,fun _=>rfl,fun h=>absurd h (by omega),h1,h2,fun _=>rfl,hrun⟩
 ·obtain ⟨b,off,cap',cs,e,hg,hcap,hw,hsz,hh⟩:=h.nested hnp hat (by omega)
  have hA:A=some ⟨b,off+s*m0,none⟩:=by
   rcases hval hver with ⟨hg0,_⟩ | ⟨b',off',c',hg',_,hA⟩
   ·rw [hg] at hg0;cases hg0
   ·rw [hg] at hg'
    simp only [Option.some.injEq,Prod.mk.injEq,Addr.mk.injEq,and_true] at hg'
    obtain ⟨⟨rfl,rfl⟩,rfl⟩:=hg'
    exact hA (by omega)
  have honly:∀ q ad c,G r q=some (ad,c)→ad.block=b→q=p:=fun q ad c hq e=>(h.inj _ _ _ _ _ _ _ _ hq hg e).2
  have hnm:s*m0+vs.length≤n0*m0:=by
   rw [hvs,← Nat.add_mul]
   exact Nat.mul_le_mul_right _ hsc
  have hcap2:n0*m0≤cap'*m0:=Nat.mul_le_mul_right _ hcap
  have hvals:∀ y u,vs[y]?=some u→∀ w',RelOwn w' (g ((s*m0+y) / m0) ((s*m0+y) % m0)) noG u:=by
   intro y u hy w'
   have hlt:y < c*m0:=by rw [← hvs];exact a2Y hy
   have e1:(s*m0+y) / m0=s+y / m0:=by rw [Nat.add_comm,Nat.add_mul_div_right _ _ hm,Nat.add_comm]
   have e2:(s*m0+y) % m0=y % m0:=by rw [Nat.add_comm,Nat.add_mul_mod_self_right]
   rw [e1,e2]
   obtain ⟨u',hu',hr'⟩:=hrel (y / m0) (y % m0) (Nat.div_lt_of_lt_mul (by rw [Nat.mul_comm];exact hlt)) (Nat.mod_lt _ hm)
   rw [Nat.div_add_mod' y m0,hy] at hu'
   obtain rfl:=Option.some.inj hu'
   exact hr' w'
  have fin:∀ {Φ:World→Gh→List Row→Prop},(∀ {w w':World} {g g':Gh} {rows rows':List Row} {j k:Nat} {u:Value} {t:T} {f:Nat→Nat→T},Φ w g rows→C3 rows t (i0::k0::(q0 ++ [j,k]))=some rows'→rowsAt rows (i0::k0::q0)=some (.arr m0 n0 f)→StG w w' g g' (i0::k0::q0) j k m0 off b cap' u t→Φ w' g' rows') →
    Φ w (G r) (σ.get r).rows→∃ w' g',(storeCells ⟨b,off+s*m0,none⟩ vs 0).run P w=.ok () w'∧WroteB w w' b∧Φ w' g' (n8 (σ.get r).rows (.arr m0 n0 (Z8 m0 s c g f)) p)∧(∀ q,(∀ j k,¬ (p ++ [j,k]) <+: q)→g' q=G r q)∧∀ q y,g' q=some y→G r q=some y:=by
   intro Φ hstep hΦ
   subst hpe
   have:=f0Q (P:=P) hm hstep g vs (s*m0) 0 w (G r) _ f hΦ hat hnm hg honly ⟨cs,e,hw,by omega⟩ (o:=off+s*m0) rfl hvals
   rw [hvs,← d0p hm] at this
   exact this
  have key:∀ {w':World} {g':Gh},WroteB w w' b→(∀ q,(∀ j k,¬ (p ++ [j,k]) <+: q)→g' q=G r q)→(∀ q y,g' q=some y→G r q=some y) →
    (∀ t,r=slot t→RelRows E G σ.V w' g' (n8 (σ.get r).rows (.arr m0 n0 (Z8 m0 s c g f)) p) (a.tmps.getD t undef))→(∀ t,r=box t→B6 E G σ.V w' g' (n8 (σ.get r).rows (.arr m0 n0 (Z8 m0 s c g f)) p)) →
    (∀ t,r=ext t→RelRows E G σ.V w' g' (n8 (σ.get r).rows (.arr m0 n0 (Z8 m0 s c g f)) p) (E.x t)) →
    Rel E (σ.set r ⟨E0 p (σ.get r).ver,n8 (σ.get r).rows (.arr m0 n0 (Z8 m0 s c g f)) p⟩) a w' (fun r'=>if r'=r then g' else G r') ∧
     u7 G σ.V (fun r'=>if r'=r then g' else G r') (σ.set r ⟨E0 p (σ.get r).ver,n8 (σ.get r).rows (.arr m0 n0 (Z8 m0 s c g f)) p⟩).V:=by
   intro w' g' hw' hout hin hs hbx hx
   have hsome:∀ r' q y,(fun r'=>if r'=r then g' else G r') r' q=some y→G r' q=some y:=fun r' q y hq=>by
    simp only at hq
    split at hq
    ·rename_i e;subst e;exact hin q y hq
    ·exact hq
   refine h.rootB r hnp _ _ hw' hg rfl (fun r1 p1 r2 p2 ad c ad' c' h1 h2 hbb=>h.inj _ _ _ _ _ _ _ _ (hsome _ _ _ h1) (hsome _ _ _ h2) hbb) (fun r1 p1 ad c h1=>h.rng _ _ _ _ (hsome _ _ _ h1)) (fun r' _ hne=>if_neg hne)
    (fun p'=>⟨hV p',fun hb=>?_⟩) ?_ (fun t e=>by rw [if_pos rfl];exact hs t e) (fun t e=>by rw [if_pos rfl];exact hbx t e) (fun t e=>by rw [if_pos rfl];exact hx t e) hhas
   ·rw [if_pos rfl]
    refine hout p' fun j k hp=>?_
    refine b1B hb ⟨(List.prefix_append p [j,k]).trans hp,fun e=>?_⟩
    have:=hp.length_le
    rw [← e,List.length_append] at this
    simp only [List.length_cons,List.length_nil] at this
    omega
   ·rw [if_pos rfl]
    exact hout [] fun j k hp=>by
     have:=hp.length_le
     simp at this
  have hpark:∀ (g':Gh) y,(fun r'=>if r'=r then g' else G r') (park y)=G (park y):=fun g' y=>if_neg fun e=>l5 hnp y e.symm
  subst hA
  obtain ⟨t,rfl | rfl | rfl⟩:=a3b hnp
  ·obtain ⟨w',g',h1,h2,h3,h4,h5⟩:=fin (Φ:=fun w g rows=>RelRows E G σ.V w g rows (a.tmps.getD t undef)) (fun hΦ hp hat hst=>RelRows.store hΦ hp hat hst) (h.slots t)
   obtain ⟨k1,k2⟩:=key h2 h4 h5 (fun t' e=>by have:=a5p e;subst this;exact h3) (fun t' e=>absurd e (A3 t t')) (fun t' e=>absurd e (J2 t t'))
   exact ⟨_,cap,w',_,_,_,rfl,fun h=>absurd h (by omega),fun _=>⟨b,_,rfl,h1⟩,k1,k2,hpark g',hrun⟩
  ·obtain ⟨w',g',h1,h2,h3,h4,h5⟩:=fin (Φ:=fun w g rows=>B6 E G σ.V w g rows) (fun hΦ hp hat hst=>B6.store hΦ hp hat hst) (h.box' t)
   obtain ⟨k1,k2⟩:=key h2 h4 h5 (fun t' e=>absurd e.symm (A3 t' t)) (fun t' e=>by have:=a6d e;subst this;exact h3) (fun t' e=>absurd e (K2 t t'))
   exact ⟨_,cap,w',_,_,_,rfl,fun h=>absurd h (by omega),fun _=>⟨b,_,rfl,h1⟩,k1,k2,hpark g',hrun⟩
  ·obtain ⟨w',g',h1,h2,h3,h4,h5⟩:=fin (Φ:=fun w g rows=>RelRows E G σ.V w g rows (E.x t)) (fun hΦ hp hat hst=>RelRows.store hΦ hp hat hst) (h.exts t)
   obtain ⟨k1,k2⟩:=key h2 h4 h5 (fun t' e=>absurd e.symm (J2 t' t)) (fun t' e=>absurd e.symm (K2 t' t)) (fun t' e=>by have:=c0C e;subst this;exact h3)
   exact ⟨_,cap,w',_,_,_,rfl,fun h=>absurd h (by omega),fun _=>⟨b,_,rfl,h1⟩,k1,k2,hpark g',hrun⟩
theorem RelOwn.noG_any {w:World} {t:T} {v:Value} (h:RelOwn w t noG v) (w':World):RelOwn w' t noG v:=by
 cases t with
 | arr m n f =>
  rcases h with h | ⟨b,off,cap,cs,e,g,_⟩
  ·exact .inl h
  ·simp [noG] at g
 | lent m n=>exact h
 | _=>exact h
theorem c8x {t t' ty:TypeId} {x y:Operand} {dst pos after guard v w'} (h:(Builtin.copy_ #[t,t'] ty #[a.eval x,a.eval y]).run P w=.ok v w') :
  (execOp a.eval ⟨dst,.call ⟨.builtin .copy,#[x,y],#[t,t']⟩,ty,pos,after,guard⟩).run P w=.ok (.value v) w':=by
 simp [execOp,resolve,invoke,builtin,h]
theorem d9j {t t' ty e:TypeId} {b o dLen dCap sLen sCap:Nat} {A:Option Addr} {vs:List Value} {w':World} (hu:P.underlying t=some (.slice e)) (hs:m7 P e=1) (hl:vs.length=Nat.min sLen dLen) (h0:0 < vs.length)
  (hsrc:∃ b' o',A=some ⟨b',o',none⟩∧∀ (j:Nat) v,vs[j]?=some v→w.cell? ⟨b',o'+j,none⟩=some v) (hst:(storeCells ⟨b,o,none⟩ vs 0).run P w=.ok () w') :
  (Builtin.copy_ #[t,t'] ty #[.slice (some ⟨b,o,none⟩) dLen dCap,.slice A sLen sCap]).run P w=.ok (.int .i64 vs.length) w':=by
 obtain ⟨b',o',rfl,hc⟩:=hsrc
 obtain ⟨i,hi,hsz⟩:=a3N (P:=P) (t:=e) (by omega)
 have hl1:=run_loadCells_list (P:=P) (w:=w) ⟨b',o',none⟩ vs (fun j v hj=>by rw [Y7];exact hc j v hj)
 have hsz:i.size=1:=by omega
 simp [Builtin.copy_,l6 hu,Builtin.lenOf,Builtin.firstCells,sizeOf,typeInfo,hi,hsz,← hl,hl1,hst,goInt]
theorem e7I {dst x y t t' e ty pos after guard} (he:a0q P t=some e):O7 P φ ⟨dst,.call ⟨.builtin .copy,#[x,y],#[t,t']⟩,ty,pos,after,guard⟩ (d7a P e dst x y):=by
 intro E σ a w L σ' L' ⟨G,hG,hp⟩ hrun K Q hK
 have hu:=a2j he
 obtain ⟨xc,σ1,L1,h1,h2⟩:=run_bind hrun
 obtain ⟨rfl,hx⟩:=o7 hG h1
 split at h2
 case h_2=>exact (i5 h2).elim
 rename_i r ver p m s n
 obtain ⟨yc,σ2,L2,h3,h4⟩:=run_bind h2
 obtain ⟨rfl,hy⟩:=o7 hG h3
 have main:∀ {m' n':Nat} {f':Nat→Nat→T} {A:Option Addr} {c:Nat} {L3},a.eval y=.slice A n' c →
   ((m'=1∨n'=0)→0 < n'→∃ b o,A=some ⟨b,o,none⟩∧∀ j,j < n'→∃ u,w.cell? ⟨b,o+j,none⟩=some u∧RelOwn w (f' j 0).plain noG u) →
   (d6Z P e dst r ver p m s n m' n' f').run φ σ2 L3=some ((),σ',L')→Oper.wp P ⟨dst,.call ⟨.builtin .copy,#[x,y],#[t,t']⟩,ty,pos,after,guard⟩ a w K Q:=by
  intro m' n' f' A c L3 hv hc hr
  obtain ⟨hb,hr2⟩:=j9 hr
  simp only [Bool.and_eq_true,Bool.or_eq_true] at hb
  obtain ⟨⟨hm,hs1⟩,hm'⟩:=hb
  have hm:=j8 hm
  subst hm
  obtain ⟨hs1,_⟩:=a6g hs1
  have hc:=hc (hm'.imp j8 j8)
  -- so many cells go over
  have go:∀ (k:Nat) {L3},k≤n→k≤n'→k=Nat.min n' n→(c0z r ver p 1 s k (fun j _=>(f' (j - s) 0).plain) (a1J dst (.int .i64 k))).run φ σ2 L3=some ((),σ',L')→Oper.wp P ⟨dst,.call ⟨.builtin .copy,#[x,y],#[t,t']⟩,ty,pos,after,guard⟩ a w K Q:=by
   intro k L3 hk1 hk2 hk hr
   obtain ⟨vs,hvl,hvs⟩:∃ vs:List Value,vs.length=k∧∀ j,j < k→∃ u,vs[j]?=some u∧RelOwn w (f' j 0).plain noG u∧∀ b o,A=some ⟨b,o,none⟩→w.cell? ⟨b,o+j,none⟩=some u:=by
    rcases Nat.eq_zero_or_pos k with h0 | h0
    ·exact ⟨[],by simp [h0],fun j hj=>by omega⟩
    ·obtain ⟨b,o,hA,hh⟩:=hc (by omega)
     have hall:∀ j,∃ u,j < k→w.cell? ⟨b,o+j,none⟩=some u∧RelOwn w (f' j 0).plain noG u:=fun j=>by
      by_cases hj:j < k
      ·obtain ⟨u,h⟩:=hh j (by omega)
       exact ⟨u,fun _=>h⟩
      ·exact ⟨undef,fun h=>absurd h hj⟩
     obtain ⟨g,hgg⟩:=Classical.axiomOfChoice hall
     refine ⟨(List.range k).map g,by simp,fun j hj=>⟨g j,by simp [hj],(hgg j hj).2,fun b' o' e=>?_⟩⟩
     rw [hA] at e
     simp only [Option.some.injEq,Addr.mk.injEq,and_true] at e
     obtain ⟨rfl,rfl⟩:=e
     exact (hgg j hj).1
   have hany:∀ j u,RelOwn w (f' j 0).plain noG u→∀ w',RelOwn w' (f' j 0).plain noG u:=fun j u h w'=>by
    cases hf:f' j 0 <;> rw [hf] at h <;> exact h
   obtain ⟨A0,cap0,w',G',σ3,L4,hxv,hz,hpos,hR,_,hpk,hk3⟩:=c4d (P:=P) hG hx hk1 (by omega) (g:=fun j _=>(f' (j - s) 0).plain) vs (by omega) (fun j k' hj hk'=>by
    obtain rfl:k'=0:=by omega
    obtain ⟨u,hu',hr',_⟩:=hvs j hj
    refine ⟨u,by simpa using hu',fun w'=>?_⟩
    rw [Nat.add_sub_cancel_left]
    exact hany j u hr' w') hr
   have hput:=a0s hR (fun y=>by rw [hpk y];exact hp y) (t:=.int .i64 k) rfl hk3
   refine m4 (v:=.int .i64 k) (w':=w') (c8x ?_) (hK _ _ hput)
   rw [hv,hxv]
   rcases Nat.eq_zero_or_pos k with h0 | h0
   ·rw [hz h0]
    subst h0
    have hi:(P.info? e).map (·.size)=some 1:=by
     obtain ⟨i,hi,hsz⟩:=a3N (P:=P) (t:=e) (by omega)
     rw [hi];simp;omega
    exact run_copy_none w t t' ty e A0 A n cap0 n' c hu hi hk.symm
   ·obtain ⟨b,o,rfl,hst⟩:=hpos h0
    obtain ⟨b',o',hA,_⟩:=hc (by omega)
    have:=d9j (P:=P) (t':=t') (ty:=ty) (dLen:=n) (dCap:=cap0) (sLen:=n') (sCap:=c) hu hs1.symm (by rw [hvl];exact hk) (by omega) ⟨b',o',hA,fun j v hj=>by
     have hlt:=a2Y hj
     obtain ⟨u,hu',_,hcell⟩:=hvs j (by omega)
     rw [hj] at hu'
     obtain rfl:=Option.some.inj hu'
     exact hcell _ _ hA⟩ hst
    rw [hvl] at this
    exact this
  cases hbr:Nat.ble n' n with
  | true =>
   change (bif Nat.ble n' n then Pr.run φ _ σ2 L3 else Pr.run φ _ σ2 L3)=_ at hr2
   rw [hbr] at hr2
   have:=Nat.le_of_ble_eq_true hbr
   exact go n' this (Nat.le_refl _) (Nat.min_eq_left this).symm hr2
  | false =>
   change (bif Nat.ble n' n then Pr.run φ _ σ2 L3 else Pr.run φ _ σ2 L3)=_ at hr2
   rw [hbr] at hr2
   have:¬ n'≤n:=fun h=>by rw [c0H,decide_eq_true h] at hbr;cases hbr
   exact go n (Nat.le_refl _) (by omega) (Nat.min_eq_right (by omega)).symm hr2
 split at h4
 ·rename_i own m' n' f'
  cases own with
  | false =>
   obtain ⟨A,c,hv,hc⟩:=c2t hG hy
   refine main hv (fun hm' h0=>?_) h4
   have:m'=1:=by omega
   subst this
   obtain ⟨b,o,hA,hh⟩:=hc h0
   refine ⟨b,o,hA,fun j hj=>?_⟩
   obtain ⟨u,hu',hr'⟩:=hh j hj 0 (by omega)
   exact ⟨u,by simpa using hu',hr'⟩
  | true =>
   rcases hy with ⟨_,rfl,hv⟩ | ⟨b,off,cap,cs,e',g,_⟩
   ·exact main hv (fun _ h0=>by omega) h4
   ·simp [noG] at g
 ·rename_i r' ver' p' m' s' n'
  obtain ⟨c,σ3,L3,h5,h6⟩:=run_bind h4
  simp only [b8u,O6] at h5
  ·obtain ⟨m0,n0,f0,hat,_,h5a⟩:=W4 h5
   replace h5a:=j9 h5a
   obtain ⟨hb,h5b⟩:=h5a
   simp only [Bool.and_eq_true] at hb
   obtain ⟨hb1,hb2,hb3⟩:=hb
   have e1:=j8 hb1
   have e2:=j8 hb2
   have e3:=Nat.le_of_ble_eq_true hb3
   subst e2
   have:=g7 h5b
   simp only [Prod.mk.injEq] at this
   obtain ⟨rfl,rfl,rfl⟩:=this
   obtain ⟨A,c,hv,hc⟩:=b3F hG hy e1 hat e3
   refine main hv (fun hm' h0=>?_) h6
   have:m'=1:=by omega
   subst this
   obtain ⟨b,o,hA,_,hh⟩:=hc h0
   refine ⟨b,o,hA,fun j hj=>?_⟩
   obtain ⟨u,hu',hr'⟩:=hh j hj 0 (by omega)
   exact ⟨u,by simpa using hu',by rw [b1h 0 hj];exact b8M hr'⟩
 ·exact (i5 h4).elim
theorem c8y (z:Array Value) (n:Nat):(Builtin.zeroCells z n).toList.length=n*z.size:=by simp [Builtin.zeroCells]
theorem c8z (z:Array Value) (n j k:Nat) (hj:j < n) (hk:k < z.size):(Builtin.zeroCells z n).toList[j*z.size+k]?=some z[k]:=by
 have h1:j*z.size+k < n*z.size:=by
  have:(j+1)*z.size≤n*z.size:=Nat.mul_le_mul_right _ hj
  rw [Nat.add_mul] at this
  omega
 have h2:(j*z.size+k) % z.size=k:=by rw [Nat.add_comm,Nat.add_mul_mod_self_right,Nat.mod_eq_of_lt hk]
 have h3:(Builtin.zeroCells z n)[j*z.size+k]?=some z[k]:=by
  unfold Builtin.zeroCells
  rw [Array.getElem?_map,Array.getElem?_range,if_pos h1]
  simp only [Option.map_some,h2]
  rw [getElem!_pos z k hk]
 simpa using h3
theorem e3S {x t e ty pos after guard} (he:a0q P t=some e):O7 P φ ⟨none,.call ⟨.builtin .clear,#[x],#[t]⟩,ty,pos,after,guard⟩ (c9R P e x):=by
 intro E σ a w L σ' L' ⟨G,hG,hp⟩ hrun K Q hK
 have hu:=a2j he
 obtain ⟨xc,σ1,L1,h1,h2⟩:=run_bind hrun
 obtain ⟨rfl,hx⟩:=o7 hG h1
 split at h2
 case h_2=>exact (i5 h2).elim
 rename_i r ver p m s n
 obtain ⟨hb,h3⟩:=j9 h2
 simp only [Bool.and_eq_true] at hb
 obtain ⟨hb1,hb2⟩:=hb
 obtain ⟨hm1,hm2⟩:=a6g hb1
 unfold a2Z at hb2
 simp only [Bool.and_eq_true] at hb2
 obtain ⟨⟨hl,_⟩,hall⟩:=hb2
 have hl:=j8 hl
 have hne:(o8 P e).2≠[]:=fun h=>by rw [h] at hl;simp at hl;omega
 obtain ⟨z,hz,hrz⟩:=b1E (P:=P) (w:=w) hne
 have hcs:=(hrz E G σ1.V).cells hne
 have hsz:z.cells.size=m:=by rw [hcs.1,hl,hm1]
 obtain ⟨A0,cap0,w',G',σ3,L4,hxv,hz0,hpos,hR,_,hpk,hk3⟩:=c4d (P:=P) hG hx (Nat.le_refl n) (by omega) (g:=fun _ k=>N9 P e 0 k) (Builtin.zeroCells z.cells n).toList (by rw [c8y,hsz]) (fun j k hj hk=>by
  have hk':k < z.cells.size:=by omega
  refine ⟨z.cells[k],by rw [← hsz];exact c8z z.cells n j k hj hk',fun w'=>?_⟩
  have hkl:k < (o8 P e).2.length:=by omega
  obtain ⟨u,hu',hr'⟩:=hcs.2 k _ (List.getElem?_eq_getElem hkl)
  rw [Array.getElem?_eq_getElem hk'] at hu'
  obtain rfl:=Option.some.inj hu'
  have hc:=List.all_eq_true.1 hall _ (List.getElem_mem hkl)
  simp only [N9,List.getElem?_eq_getElem hkl]
  generalize (o8 P e).2[k]=c at hc hr'
  cases c with
  | tr o tt =>
   cases o with
   | true=>exact RelOwn.noG_any hr' w'
   | false=>simp at hc
  | _=>simp at hc) h3
 have:=g7 (φ:=φ) hk3
 simp only [Prod.mk.injEq] at this
 obtain ⟨_,rfl,rfl⟩:=this
 refine m4 (v:=.tuple #[]) (w':=w') ?_ (hK _ _ ⟨G',hR,fun y=>by rw [hpk y];exact hp y⟩)
 have:(Builtin.clear_ #[t] ty #[a.eval x]).run P w=.ok (.tuple #[]) w':=by
  rw [hxv]
  rcases Nat.eq_zero_or_pos n with h0 | h0
  ·rw [hz0 h0]
   subst h0
   cases A0 <;> simp [Builtin.clear_,l6 hu]
  ·obtain ⟨b,o,rfl,hst⟩:=hpos h0
   obtain ⟨n,rfl⟩:∃ n',n=n'+1:=⟨n - 1,by omega⟩
   simp [Builtin.clear_,l6 hu,hz,hst]
 simp [execOp,resolve,invoke,builtin,this]
end
end Go.Mach
namespace Go.Mach
theorem c4e {α:Type} (φ:Sems) (p:Pr α):∀ (σ:St) (L:Log) (K:α→St→Log→Prop),p.evalK φ False σ L K↔∃ a σ' L',p.run φ σ L=some (a,σ',L')∧K a σ' L':=by
 induction p with
 | ret a =>
  intro σ L K
  refine ⟨fun h=>⟨a,σ,L,rfl,h⟩,fun ⟨a',σ',L',e,h⟩=>?_⟩
  have e:=Option.some.inj e
  obtain ⟨rfl,rfl,rfl⟩:a=a'∧σ=σ'∧L=L':=⟨congrArg (·.1) e,congrArg (·.2.1) e,congrArg (·.2.2) e⟩
  exact h
 | rd r k ih=>intro σ L K;exact ih _ σ _ K
 | wr r c k ih =>
  intro σ L K
  simp only [Pr.evalK,Pr.run]
  cases σ.has r with
  | true=>exact ih _ _ K
  | false=>simp
 | hdr r p g hg k ih=>intro σ L K;exact ih _ σ _ K
 | tp r k ih=>intro σ L K;exact ih _ σ _ K
 | mv r q u k ih =>
  intro σ L K
  simp only [Pr.evalK,Pr.run]
  cases (σ.has r&&G9 (σ.get r).rows q) with
  | true=>exact ih _ _ K
  | false=>simp
 | up r q u k ih =>
  intro σ L K
  simp only [Pr.evalK,Pr.run]
  cases (σ.has r&&G9 (σ.get r).rows q) with
  | true=>exact ih _ _ K
  | false=>simp
 | call f a k ih =>
  intro σ L K
  simp only [Pr.evalK,Pr.run]
  rcases φ.det f a with hd | ⟨rs,outs,hd⟩
  ·rw [hd,hd];simp
  ·rw [hd,hd];exact ih _ _ _ _ K
 | ask f k ih=>intro σ L K;exact ih _ σ _ K
 | br b x y ihx ihy =>
  intro σ L K
  cases b with
  | true=>exact ihx _ _ K
  | false=>exact ihy _ _ K
 | fail=>intro σ L K;simp [Pr.evalK,Pr.run]
theorem b8Y {α R R':Type} (φ:Sems) (h:R→R') (z:R) (z':R') (hz:h z=z') (p:Pr α):∀ (σ:St) (L:Log) (K:α→St→Log→R),h (p.evalK φ z σ L K)=p.evalK φ z' σ L (fun a σ L=>h (K a σ L)):=by
 induction p with
 | ret a=>intro σ L K;rfl
 | rd r k ih=>intro σ L K;exact ih _ σ _ K
 | wr r c k ih =>
  intro σ L K
  simp only [Pr.evalK]
  cases σ.has r with
  | true=>exact ih _ _ K
  | false=>exact hz
 | hdr r p g hg k ih=>intro σ L K;exact ih _ σ _ K
 | tp r k ih=>intro σ L K;exact ih _ σ _ K
 | mv r q u k ih =>
  intro σ L K
  simp only [Pr.evalK]
  cases (σ.has r&&G9 (σ.get r).rows q) with
  | true=>exact ih _ _ K
  | false=>exact hz
 | up r q u k ih =>
  intro σ L K
  simp only [Pr.evalK]
  cases (σ.has r&&G9 (σ.get r).rows q) with
  | true=>exact ih _ _ K
  | false=>exact hz
 | call f a k ih =>
  intro σ L K
  simp only [Pr.evalK]
  rcases φ.det f a with hd | ⟨rs,outs,hd⟩
  ·rw [hd,hd];exact hz
  ·rw [hd,hd];exact ih _ _ _ _ K
 | ask f k ih=>intro σ L K;exact ih _ σ _ K
 | br b x y ihx ihy =>
  intro σ L K
  cases b with
  | true=>exact ihx _ _ K
  | false=>exact ihy _ _ K
 | fail=>intro σ L K;exact hz
section
variable {P:Program} {φ:Sems}
theorem d0q (hφ:V0 P φ) (o:Oper):O7 P φ o (opP P o):=by
 obtain ⟨dst,op,ty,pos,after,guard⟩:=o
 have nope:∀ {p:Pr Unit},p=.fail→O7 P φ ⟨dst,op,ty,pos,after,guard⟩ p:=fun e=>by
  subst e
  intro E σ a w L σ' L' _ hrun
  exact (i5 hrun).elim
 cases op with
 | move x=>exact e7w
 | assign x=>exact d8U
 | pick c x y=>exact e7x
 | alloc e=>exact e3H
 | box e x=>exact f0L
 | load t x=>exact e7A
 | store t x y=>exact e3J
 | nilCheck x=>exact d3D
 | fieldAddr t x k=>exact d0e
 | field t x k=>exact e3B
 | indexAddr t x i=>exact d0g
 | index t x i=>exact e3C
 | binOp op t x y yt=>exact e3E
 | unOp op t x=>cases op with
  | not=>exact f0J
  | _=>exact nope rfl
 | convert s d x=>exact d7j
 | extract x i=>exact d7e
 | makeFunc fn first caps=>cases fn with
  | func f=>exact d3F
  | _=>exact nope rfl
 | makeSlice t l c=>exact d0i
 | slice t x lo hi mx=>cases mx with
  | none=>exact e3F
  | some m=>exact nope rfl
 | build t ps=>exact e3M
 | buildSlice t len ps=>exact c8w
 | call c =>
  obtain ⟨callee,args,argTypes⟩:=c
  cases callee with
  | value f=>exact e7H hφ
  | invoke r m=>exact nope rfl
  | builtin b=>cases b with
   | copy =>
    obtain ⟨args⟩:=args
    obtain ⟨argTypes⟩:=argTypes
    match args,argTypes with
    | [x,y],[t,t'] =>
     cases he:a0q P t with
     | none =>
      refine nope ?_
      simp [opP,he]
     | some e =>
      have:opP P ⟨dst,.call ⟨.builtin .copy,⟨[x,y]⟩,⟨[t,t']⟩⟩,ty,pos,after,guard⟩=d7a P e dst x y:=by simp [opP,he]
      rw [this]
      exact e7I he
    | [],_=>exact nope rfl
    | [_],_=>exact nope rfl
    | [_,_],[]=>exact nope rfl
    | [_,_],[_]=>exact nope rfl
    | [_,_],_::_::_::_=>exact nope rfl
    | _::_::_::_,_=>exact nope rfl
   | clear =>
    obtain ⟨args⟩:=args
    obtain ⟨argTypes⟩:=argTypes
    cases dst with
    | some d=>exact nope rfl
    | none =>
     match args,argTypes with
     | [x],[t] =>
      cases he:a0q P t with
      | none =>
       refine nope ?_
       simp [opP,he]
      | some e =>
       have:opP P ⟨none,.call ⟨.builtin .clear,⟨[x]⟩,⟨[t]⟩⟩,ty,pos,after,guard⟩=c9R P e x:=by simp [opP,he]
       rw [this]
       exact e3S he
     | [],_=>exact nope rfl
     | [_],[]=>exact nope rfl
     | [_],_::_::_=>exact nope rfl
     | _::_::_,_=>exact nope rfl
   | min =>
    obtain ⟨args⟩:=args
    match args with
    | [x,y]=>exact f0M
    | []=>exact nope rfl
    | [_]=>exact nope rfl
    | _::_::_::_=>exact nope rfl
   | len =>
    obtain ⟨args⟩:=args
    obtain ⟨argTypes⟩:=argTypes
    match args,argTypes with
    | [x],[t]=>exact f0K
    | [],_=>exact nope rfl
    | [_],[]=>exact nope rfl
    | [_],_::_::_=>exact nope rfl
    | _::_::_,_=>exact nope rfl
   | append =>
    obtain ⟨args⟩:=args
    obtain ⟨argTypes⟩:=argTypes
    match args,argTypes with
    | [x,y],[t,t'] =>
     cases ht:Nat.beq t t' with
     | false =>
      refine nope ?_
      simp [opP,ht]
     | true =>
      have:=j8 ht
      subst this
      cases he:a0q P t with
      | none =>
       refine nope ?_
       simp [opP,he,E5]
      | some e =>
       have:opP P ⟨dst,.call ⟨.builtin .append,⟨[x,y]⟩,⟨[t,t]⟩⟩,ty,pos,after,guard⟩=c5A P e dst x y:=by simp [opP,he,E5]
       rw [this]
       exact d9c he
    | [],_=>exact nope rfl
    | [_],_=>exact nope rfl
    | [_,_],[]=>exact nope rfl
    | [_,_],[_]=>exact nope rfl
    | [_,_],_::_::_::_=>exact nope rfl
    | _::_::_::_,_=>exact nope rfl
   | _=>exact nope rfl
 | _=>exact nope rfl
theorem c4f (hφ:V0 P φ) {ops:Array Oper} {i:Nat} {o:Oper} (hi:ops[i]?=some o) {E:Env} {σ σ':St} {a:Act} {w:World} {L L':Log} (h:S E σ a w) (hrun:(c0A P ops o).run φ σ L=some ((),σ',L'))
  {K:Act→World→Prop} {Q:Exit→Act→World→Prop} (hK:∀ a' w',S E σ' a' w'→K a' w'):wpOp P ops Q i K a w:=by
 unfold wpOp
 simp only [hi]
 have hput:∀ {L1},(put o.dst b3z).run φ σ L1=some ((),σ',L')→S E σ' (a.put o.dst undef) w:=fun hr=>d7c (rows:=b3z) h (fun G _ _=>show i7 E G σ.V w (fun _=>noG) (false,[]) undef from rfl) hr
 unfold c0A at hrun
 split at hrun
 ·rename_i hg
  have hw:Region.wanted o (yielded ops a.tmps)=true:=by unfold Region.wanted;rw [hg]
  rw [if_pos hw]
  exact .inl (d0q hφ o E σ a w L σ' L' h hrun K Q hK)
 ·rename_i g want hg
  split at hrun
  case h_2=>exact (i5 hrun).elim
  rename_i t ht
  rw [O6] at hrun
  obtain ⟨G,hG,hp⟩:=h
  have hslot:=hG.slots t
  split at hrun
  ·rename_i own b hrows
   rw [hrows] at hslot
   have hv:a.tmps.getD t undef=.bool b:=a6f (show l4 E G _ w _ (.tr own (.bool b)) _ from hslot)
   have hy:yielded ops a.tmps g=some b:=by
    unfold yielded
    rw [ht]
    simp only [Option.bind_some]
    rw [Array.getD_eq_getD_getElem?] at hv
    cases hx:a.tmps[t]? with
    | none=>rw [hx] at hv;simp [undef] at hv
    | some x=>rw [hx] at hv;simp at hv;subst hv;rfl
   have hw:Region.wanted o (yielded ops a.tmps)=(bif want then b else !b):=by
    unfold Region.wanted
    rw [hg]
    show (yielded ops a.tmps g==some want)=_
    rw [hy]
    cases want <;> cases b <;> rfl
   rw [hw]
   cases hb:(bif want then b else !b) with
   | true =>
    rw [hb] at hrun
    simp only [if_true]
    exact .inl (d0q hφ o E σ a w _ σ' L' ⟨G,hG,hp⟩ hrun K Q hK)
   | false =>
    rw [hb] at hrun
    simp only [Bool.false_eq_true,if_false]
    exact hK _ _ (hput hrun)
  ·rename_i hrows
   rw [hrows] at hslot
   have hv:a.tmps.getD t undef=undef:=hslot
   have hy:yielded ops a.tmps g=none:=by
    unfold yielded
    rw [ht]
    simp only [Option.bind_some]
    rw [Array.getD_eq_getD_getElem?] at hv
    cases hx:a.tmps[t]? with
    | none=>rfl
    | some x=>rw [hx] at hv;simp at hv;subst hv;rfl
   have hw:Region.wanted o (yielded ops a.tmps)=false:=by
    unfold Region.wanted
    rw [hg]
    show (yielded ops a.tmps g==some want)=_
    rw [hy]
    rfl
   rw [hw]
   simp only [Bool.false_eq_true,if_false]
   exact hK _ _ (hput hrun)
  ·exact (i5 hrun).elim
/-! ### preparing and trimming a state -/
theorem c5J (σ:St) (r r':Nat):(σ.add r).get r'=σ.get r':=by
 unfold St.add
 cases h:σ.has r with
 | true=>rfl
 | false =>
  simp only [cond_false]
  have key:∀ σ:St,(σ ++ [(r,(⟨z0,[]⟩:Ct))]).get r'=σ.get r':=by
   intro σ
   induction σ with
   | nil=>simp only [List.nil_append,St.get];cases Nat.beq r r' <;> rfl
   | cons x σ ih=>simp only [List.cons_append,St.get,ih]
  exact key σ
theorem e7J (σ:St) (r r':Nat):(σ.add r).has r'=true↔(σ.has r'=true∨r'=r):=by
 unfold St.add
 cases h:σ.has r with
 | true =>
  simp only [cond_true]
  exact ⟨.inl,fun h'=>h'.elim id fun e=>e ▸ h⟩
 | false =>
  simp only [cond_false,R5,List.map_append,List.mem_append,List.map_cons,List.map_nil,List.mem_singleton]
theorem Rel.add {E σ a w G} (h:Rel E σ a w G) (r:Nat) (hr:∀ t,r=slot t→t < E.nt):Rel E (σ.add r) a w G where
 nd:=by
  unfold St.add
  cases hh:σ.has r with
  | true=>exact h.nd
  | false =>
   simp only [cond_false,List.map_append,List.map_cons,List.map_nil]
   refine List.nodup_append.2 ⟨h.nd,by simp,fun x hx y hy=>?_⟩
   simp only [List.mem_singleton] at hy
   subst hy
   intro e
   subst e
   rw [← R5] at hx
   rw [hx] at hh
   cases hh
 inj:=h.inj
 rng:=h.rng
 os:=h.os
 tape:=h.tape
 output:=h.output
 size:=h.size
 kept:=h.kept
 slots:=fun t=>by simp only [c5J];exact h.slots t
 boxes:=fun t=>by simp only [c5J];exact h.boxes t
 exts:=fun t=>by simp only [c5J];exact h.exts t
 xbox:=h.xbox
 defers:=h.defers
 tm:=h.tm
 here:=fun t ht=>by
  rw [e7J] at ht
  rcases ht with h1 | h1
  ·exact h.here t h1
  ·exact hr t h1.symm
theorem S.prep {E a w}:∀ (l:List Oper) {σ:St},S E σ a w→S E (prep E.nt l σ) a w
 | [],σ,h=>h
 | o::l,σ,h=>by
  refine S.prep l ?_
  unfold d4u
  split
  ·rename_i d hd
   cases hlt:Nat.blt d E.nt with
   | false=>exact h
   | true =>
    simp only [Nat.blt_eq] at hlt
    obtain ⟨G,hG,hp⟩:=h
    have h1:=hG.add (slot d) (fun t e=>by have:=a5p e;omega)
    have h2:=h1.add (box d) (fun t e=>absurd e.symm (A3 t d))
    simp only [cond_true]
    split
    ·exact ⟨G,h2,hp⟩
    ·exact ⟨G,h2,hp⟩
    ·exact ⟨G,h1,hp⟩
  ·exact h
end
end Go.Mach
namespace Go.Mach
/-! ### two programs that S0 nothing in common -/
/-- Two contents that no turn beside a path tells apart. -/
def a9H (p:Path) (c c':Ct):Prop:=∀ g,HdOk p g→g c'=g c
/-- Two contents whose cells' heads are the same. -/
def a3P (c c':Ct):Prop:=∀ r,O3 r c'.ver c'.rows=O3 r c.ver c.rows
def b5u (c c':Ct):Acc→Prop
 | .hd p=>a9H p c c'
 | .tp=>a3P c c'
 | _=>c'=c
def c4g (M:Log) (σ τ:St):Prop:=∀ r x,(r,x)∈M→b5u (σ.get r) (τ.get r) x
theorem b3J {c c':Ct} (h:c'=c) (x:Acc):b5u c c' x:=by
 subst h
 cases x with
 | hd p=>exact fun _ _=>rfl
 | tp=>exact fun _=>rfl
 | _=>exact rfl
theorem b5v {α β:Type} (g:Nat→α→β):∀ (l:List α) (i j:Nat),(Z9 g i l)[j]?=l[j]?.map (g (i+j))
 | [],_,_=>rfl
 | a::l,i,0=>rfl
 | a::l,i,j+1=>by
  show (Z9 g (i+1) l)[j]?=l[j]?.map _
  rw [b5v g l,show i+1+j=i+(j+1) by omega]
theorem d9k (q:Path) (v:Ver) (a b:Nat) (h:2≤q.length):E0 q v [a,b]=v [a,b]:=by
 match q,h with
 | i::k::q,_ =>
  have:a8b (i::k::q) [a,b]=false:=by
   unfold a8b
   cases q <;> simp [c3L]
  unfold E0
  rw [this,cond_false]
theorem d9l {r:Nat} {v:Ver} {p:Path} (t u:T):D2 r v p (.tr true (t.reHd u))=D2 r v p (.tr true t):=by cases t <;> rfl
theorem e3T {r:Nat} {v:Ver} {p:Path} {t u:T}:∀ (q:Path),D2 r v p (.tr true (t.set q ((t.get q).reHd u)))=D2 r v p (.tr true t)
 | []=>by
  have e:t.get []=t:=by cases t <;> rfl
  show D2 r v p (.tr true ((t.get []).reHd u))=_
  rw [e]
  exact d9l t u
 | [j]=>by cases t <;> rfl
 | j::k::q=>by cases t <;> rfl
theorem f0R {ct:Ct} {q:Path} {u:T} (hc:G9 ct.rows q=true):a3P ct (mvC q u ct):=by
 intro r
 unfold G9 at hc
 split at hc
 case h_2=>cases hc
 rename_i i k q'
 split at hc
 case h_2=>cases hc
 rename_i g cs hr
 split at hc
 case h_2=>cases hc
 rename_i t ht
 have hcell:v6 ct.rows i k=t:=by unfold v6;simp only [hr,ht]
 show O3 r (E0 (i::k::q') ct.ver) (n8 ct.rows ((E9 ct.rows (i::k::q')).reHd u) (i::k::q'))=_
 have hget:E9 ct.rows (i::k::q')=t.get q':=by
  show (v6 ct.rows i k).get q'=_
  rw [hcell]
 have hset:n8 ct.rows ((E9 ct.rows (i::k::q')).reHd u) (i::k::q')=ct.rows.set i (g,cs.set k (.tr true (t.set q' ((t.get q').reHd u)))):=by
  rw [hget]
  unfold n8
  simp only [hr,hcell]
 rw [hset]
 have hv:∀ a b c,D2 r (E0 (i::k::q') ct.ver) [a,b] c=D2 r ct.ver [a,b] c:=fun a b c=>by
  have e:=d9k (i::k::q') ct.ver a b (by simp)
  unfold D2
  split <;> simp only [e]
 unfold O3
 refine List.ext_getElem? fun a=>?_
 rw [b5v,b5v,Nat.zero_add]
 by_cases ea:a=i
 ·subst ea
  rw [List.getElem?_set_self (List.getElem?_eq_some_iff.1 hr).1,hr]
  simp only [Option.map_some,Option.some.injEq,Prod.mk.injEq,true_and]
  refine List.ext_getElem? fun b=>?_
  rw [b5v,b5v,Nat.zero_add]
  by_cases eb:b=k
  ·subst eb
   rw [List.getElem?_set_self (List.getElem?_eq_some_iff.1 ht).1,ht]
   simp only [Option.map_some,hv,e3T q']
  ·rw [List.getElem?_set_ne (Ne.symm eb)]
   congr 1
   funext c
   exact hv _ _ _
 ·rw [List.getElem?_set_ne (Ne.symm ea)]
  congr 1
  funext row
  congr 1
  congr 1
  funext b c
  exact hv _ _ _
/-- Is it written? -/
def wrote (M:Log) (r:Nat):Prop:=(r,.wr)∈M∨(∃ q,(r,.up q)∈M)∨∃ q,(r,.dn q)∈M
/-- Do the cells' heads stay ags they are? -/
def b5w (M:Log) (r:Nat):Prop:=(r,.wr) ∉ M∧∀ q,(r,.up q) ∉ M
/-- Is nothing turned that a read at the path would see? -/
def c5K (M:Log) (r:Nat) (p:Path):Prop:=((r,.wr) ∉ M∧∀ q,(r,.dn q) ∉ M)∧∀ q,(r,.up q)∈M→S0 q p=false
theorem b3K {α:Type} (φ:Sems) (p:Pr α):∀ (σ:St) (L:Log) (a:α) (σ1:St) (L1:Log),p.run φ σ L=some (a,σ1,L1) →
  ∃ M,L1=M ++ L∧σ1.map (·.1)=σ.map (·.1)∧(∀ r,¬ wrote M r→σ1.get r=σ.get r)∧((∀ r p,c5K M r p→a9H p (σ.get r) (σ1.get r))∧∀ r,b5w M r→a3P (σ.get r) (σ1.get r)) ∧
   ∀ (τ:St) (L':Log),τ.map (·.1)=σ.map (·.1)→c4g M σ τ→∃ τ1,p.run φ τ L'=some (a,τ1,M ++ L')∧τ1.map (·.1)=τ.map (·.1) ∧
    (∀ r,wrote M r→τ1.get r=σ1.get r)∧(∀ r,¬ wrote M r→τ1.get r=τ.get r):=by
 -- a read
 have read:∀ (x:Acc) (r:Nat) (k:Pr α) (σ:St) (L:Log) (a:α) (σ1:St) (L1:Log),(x=.rd∨x=.tp∨∃ p,x=.hd p) →
   (∃ M,L1=M ++ ((r,x)::L)∧σ1.map (·.1)=σ.map (·.1)∧(∀ r,¬ wrote M r→σ1.get r=σ.get r)∧((∀ r p,c5K M r p→a9H p (σ.get r) (σ1.get r))∧∀ r,b5w M r→a3P (σ.get r) (σ1.get r)) ∧
    ∀ (τ:St) (L':Log),τ.map (·.1)=σ.map (·.1)→c4g M σ τ→∃ τ1,k.run φ τ L'=some (a,τ1,M ++ L')∧τ1.map (·.1)=τ.map (·.1) ∧
     (∀ r,wrote M r→τ1.get r=σ1.get r)∧(∀ r,¬ wrote M r→τ1.get r=τ.get r))→∀ (p:Pr α),(∀ (τ:St) (L':Log),b5u (σ.get r) (τ.get r) x→p.run φ τ L'=k.run φ τ ((r,x)::L')) →
   ∃ M,L1=M ++ L∧σ1.map (·.1)=σ.map (·.1)∧(∀ r,¬ wrote M r→σ1.get r=σ.get r)∧((∀ r p,c5K M r p→a9H p (σ.get r) (σ1.get r))∧∀ r,b5w M r→a3P (σ.get r) (σ1.get r)) ∧
    ∀ (τ:St) (L':Log),τ.map (·.1)=σ.map (·.1)→c4g M σ τ→∃ τ1,p.run φ τ L'=some (a,τ1,M ++ L')∧τ1.map (·.1)=τ.map (·.1) ∧
     (∀ r,wrote M r→τ1.get r=σ1.get r)∧(∀ r,¬ wrote M r→τ1.get r=τ.get r):=by
  rintro x r k σ L a σ1 L1 hx ⟨M,e,h1,h2,⟨hh,ht⟩,h3⟩ p hp
  have n1:x≠.wr:=by rcases hx with rfl | rfl | ⟨_,rfl⟩ <;> exact fun h=>by cases h
  have n2:∀ q,x≠.up q:=fun q=>by rcases hx with rfl | rfl | ⟨_,rfl⟩ <;> exact fun h=>by cases h
  have n3:∀ q,x≠.dn q:=fun q=>by rcases hx with rfl | rfl | ⟨_,rfl⟩ <;> exact fun h=>by cases h
  have hm:∀ r' y,y≠x→((r',y)∈M ++ [(r,x)]↔(r',y)∈M):=fun r' y hy=>by
   simp only [List.mem_append,List.mem_singleton,Prod.mk.injEq]
   exact ⟨fun h=>h.resolve_right fun h=>hy h.2,.inl⟩
  have hw:∀ r',wrote (M ++ [(r,x)]) r'↔wrote M r':=fun r'=>by
   unfold wrote
   rw [hm r' _ n1.symm]
   exact or_congr Iff.rfl (or_congr (exists_congr fun q=>hm r' _ (n2 q).symm) (exists_congr fun q=>hm r' _ (n3 q).symm))
  refine ⟨M ++ [(r,x)],by simp [e],h1,fun r' hr=>h2 r' (by rwa [hw] at hr),⟨fun r' p hr=>hh r' p ⟨⟨fun h=>hr.1.1 ((hm r' _ n1.symm).2 h),fun q h=>hr.1.2 q ((hm r' _ (n3 q).symm).2 h)⟩,fun q h=>hr.2 q ((hm r' _ (n2 q).symm).2 h)⟩,
   fun r' hr=>ht r' ⟨fun h=>hr.1 ((hm r' _ n1.symm).2 h),fun q h=>hr.2 q ((hm r' _ (n2 q).symm).2 h)⟩⟩,fun τ L' hk ha=>?_⟩
  obtain ⟨τ1,t1,t2,t3,t4⟩:=h3 τ ((r,x)::L') hk fun r' b hm=>ha r' b (by simp [hm])
  refine ⟨τ1,?_,t2,fun r' hr=>t3 r' (by rwa [hw] at hr),fun r' hr=>t4 r' (by rwa [hw] at hr)⟩
  rw [hp τ L' (ha r x (by simp)),t1]
  simp
 -- a write
 have write:∀ (x:Acc) (f:Ct→Ct) (ok:Ct→Bool) (r:Nat) (k:Pr α) (σ:St) (L:Log) (a:α) (σ1:St) (L1:Log),σ.has r=true→ok (σ.get r)=true→(x=.wr∨(∃ q,x=.up q)∨∃ q,x=.dn q) →
   (∀ c c':Ct,b5u c c' x→c'=c)→(∀ p,(x≠.wr∧∀ q,x≠.dn q)→(∀ q,x=.up q→S0 q p=false)→a9H p (σ.get r) (f (σ.get r)))→((x≠.wr∧∀ q,x≠.up q)→a3P (σ.get r) (f (σ.get r))) →
   (∃ M,L1=M ++ ((r,x)::L)∧σ1.map (·.1)=(σ.set r (f (σ.get r))).map (·.1)∧(∀ r',¬ wrote M r'→σ1.get r'=(σ.set r (f (σ.get r))).get r')∧((∀ r' p,c5K M r' p→a9H p ((σ.set r (f (σ.get r))).get r') (σ1.get r'))∧∀ r',b5w M r'→a3P ((σ.set r (f (σ.get r))).get r') (σ1.get r')) ∧
    ∀ (τ:St) (L':Log),τ.map (·.1)=(σ.set r (f (σ.get r))).map (·.1)→c4g M (σ.set r (f (σ.get r))) τ→∃ τ1,k.run φ τ L'=some (a,τ1,M ++ L')∧τ1.map (·.1)=τ.map (·.1) ∧
     (∀ r,wrote M r→τ1.get r=σ1.get r)∧(∀ r,¬ wrote M r→τ1.get r=τ.get r))→∀ (p:Pr α),(∀ (τ:St) (L':Log),τ.has r=true→ok (τ.get r)=true→p.run φ τ L'=k.run φ (τ.set r (f (τ.get r))) ((r,x)::L')) →
   (x=.wr→∀ c c',f c=f c'∧ok c'=true) →
   ∃ M,L1=M ++ L∧σ1.map (·.1)=σ.map (·.1)∧(∀ r,¬ wrote M r→σ1.get r=σ.get r)∧((∀ r p,c5K M r p→a9H p (σ.get r) (σ1.get r))∧∀ r,b5w M r→a3P (σ.get r) (σ1.get r)) ∧
    ∀ (τ:St) (L':Log),τ.map (·.1)=σ.map (·.1)→c4g M σ τ→∃ τ1,p.run φ τ L'=some (a,τ1,M ++ L')∧τ1.map (·.1)=τ.map (·.1) ∧
     (∀ r,wrote M r→τ1.get r=σ1.get r)∧(∀ r,¬ wrote M r→τ1.get r=τ.get r):=by
  rintro x f ok r k σ L a σ1 L1 hh hok hx hag hhd htop ⟨M,e,h1,h2,⟨hs,ht⟩,h3⟩ p hp _
  have hwx:wrote (M ++ [(r,x)]) r:=by
   unfold wrote
   rcases hx with rfl | ⟨q,rfl⟩ | ⟨q,rfl⟩
   ·exact .inl (by simp)
   ·exact .inr (.inl ⟨q,by simp⟩)
   ·exact .inr (.inr ⟨q,by simp⟩)
  have hw:∀ r',wrote (M ++ [(r,x)]) r'↔wrote M r'∨r'=r:=fun r'=>by
   refine ⟨fun h=>?_,fun h=>?_⟩
   ·unfold wrote at h
    simp only [List.mem_append,List.mem_singleton,Prod.mk.injEq] at h
    rcases h with h | ⟨q,h⟩ | ⟨q,h⟩
    ·exact h.elim (fun h=>.inl (.inl h)) fun h=>.inr h.1
    ·exact h.elim (fun h=>.inl (.inr (.inl ⟨q,h⟩))) fun h=>.inr h.1
    ·exact h.elim (fun h=>.inl (.inr (.inr ⟨q,h⟩))) fun h=>.inr h.1
   ·rcases h with h | rfl
    ·unfold wrote at h ⊢
     simp only [List.mem_append]
     rcases h with h | ⟨q,h⟩ | ⟨q,h⟩
     ·exact .inl (.inl h)
     ·exact .inr (.inl ⟨q,.inl h⟩)
     ·exact .inr (.inr ⟨q,.inl h⟩)
    ·exact hwx
  refine ⟨M ++ [(r,x)],by simp [e],by rw [h1,E1],fun r' hr=>?_,⟨fun r' p' hr=>?_,fun r' hr=>?_⟩,fun τ L' hk ha=>?_⟩
  ·rw [hw,not_or] at hr
   rw [h2 r' hr.1,n9]
   rw [if_neg fun x=>hr.2 x.1.symm]
  ·have:=hs r' p' ⟨⟨fun hm=>hr.1.1 (by simp [hm]),fun q hm=>hr.1.2 q (by simp [hm])⟩,fun q hm=>hr.2 q (by simp [hm])⟩
   rw [n9] at this
   by_cases er:r=r'
   ·subst er
    rw [if_pos ⟨rfl,hh⟩] at this
    intro g hg
    rw [this g hg]
    exact hhd p' ⟨fun ex=>hr.1.1 (by simp [ex]),fun q ex=>hr.1.2 q (by simp [ex])⟩ (fun q ex=>hr.2 q (by simp [ex])) g hg
   ·rw [if_neg fun x=>er x.1] at this
    exact this
  ·have:=ht r' ⟨fun hm=>hr.1 (by simp [hm]),fun q hm=>hr.2 q (by simp [hm])⟩
   rw [n9] at this
   by_cases er:r=r'
   ·subst er
    rw [if_pos ⟨rfl,hh⟩] at this
    intro z
    rw [this z]
    exact htop ⟨fun ex=>hr.1 (by simp [ex]),fun q ex=>hr.2 q (by simp [ex])⟩ z
   ·rw [if_neg fun x=>er x.1] at this
    exact this
  ·have hτ:τ.has r=true:=by rw [R5] at *;rwa [hk]
   have e0:τ.get r=σ.get r:=hag _ _ (ha r x (by simp))
   obtain ⟨τ1,t1,t2,t3,t4⟩:=h3 (τ.set r (f (τ.get r))) ((r,x)::L') (by rw [E1,E1,hk]) fun r' b hm=>by
    rw [n9,n9,hh,hτ,e0]
    by_cases er:r=r'
    ·exact b3J (by simp [er]) b
    ·simp only [er,false_and,if_false]
     exact ha r' b (by simp [hm])
   refine ⟨τ1,by rw [hp τ L' hτ (by rw [e0];exact hok),t1];simp,by rw [t2,E1],fun r' hr=>?_,fun r' hr=>?_⟩
   ·by_cases hm:wrote M r'
    ·exact t3 r' hm
    ·rw [hw] at hr
     obtain rfl:=hr.resolve_left hm
     rw [t4 _ hm,h2 _ hm,n9,n9,hh,hτ,e0]
   ·rw [hw,not_or] at hr
    rw [t4 _ hr.1,n9,if_neg fun x=>hr.2 x.1.symm]
 induction p with
 | ret a =>
  intro σ L a' σ1 L1 h
  have e:=Option.some.inj h
  obtain ⟨rfl,rfl,rfl⟩:a=a'∧σ=σ1∧L=L1:=⟨congrArg (·.1) e,congrArg (·.2.1) e,congrArg (·.2.2) e⟩
  exact ⟨[],rfl,rfl,fun _ _=>rfl,⟨fun _ _ _ _ _=>rfl,fun _ _ _=>rfl⟩,fun τ L' _ _=>⟨τ,rfl,rfl,fun _ hm=>absurd hm (by simp [wrote]),fun _ _=>rfl⟩⟩
 | rd r k ih =>
  intro σ L a σ1 L1 h
  refine read .rd r (k (σ.get r)) σ L a σ1 L1 (.inl rfl) (ih _ σ _ a σ1 L1 h) _ fun τ L' e0=>?_
  have e0:τ.get r=σ.get r:=e0
  show (k (τ.get r)).run φ τ ((r,.rd)::L')=_
  rw [e0]
 | hdr r p g hg k ih =>
  intro σ L a σ1 L1 h
  refine read (.hd p) r (k (g (σ.get r))) σ L a σ1 L1 (.inr (.inr ⟨p,rfl⟩)) (ih _ σ _ a σ1 L1 h) _ fun τ L' e0=>?_
  have e0:a9H p (σ.get r) (τ.get r):=e0
  show (k (g (τ.get r))).run φ τ ((r,.hd p)::L')=_
  rw [e0 g hg]
 | tp r k ih =>
  intro σ L a σ1 L1 h
  refine read .tp r (k (O3 r (σ.get r).ver (σ.get r).rows)) σ L a σ1 L1 (.inr (.inl rfl)) (ih _ σ _ a σ1 L1 h) _ fun τ L' e0=>?_
  have e0:a3P (σ.get r) (τ.get r):=e0
  show (k (O3 r (τ.get r).ver (τ.get r).rows)).run φ τ ((r,.tp)::L')=_
  rw [e0 r]
 | wr r c k ih =>
  intro σ L a σ1 L1 h
  simp only [Pr.run] at h
  cases hh:σ.has r with
  | false=>simp [hh] at h
  | true =>
   simp only [hh,cond_true] at h
   obtain ⟨M,e,h1,h2,⟨hs,ht⟩,h3⟩:=ih _ _ a σ1 L1 h
   have hw:∀ r',wrote (M ++ [(r,.wr)]) r'↔wrote M r'∨r'=r:=fun r'=>by
    simp only [wrote,List.mem_append,List.mem_singleton,Prod.mk.injEq,and_true,reduceCtorEq,and_false,or_false]
    exact ⟨fun h=>h.elim (fun h=>h.elim (fun h=>.inl (.inl h)) .inr) fun h=>.inl (.inr h),fun h=>h.elim (fun h=>h.elim (fun h=>.inl (.inl h)) .inr) fun h=>.inl (.inr h)⟩
   refine ⟨M ++ [(r,.wr)],by simp [e],by rw [h1,E1],fun r' hr=>?_,⟨fun r' p hr=>?_,fun r' hr=>?_⟩,fun τ L' hk ha=>?_⟩
   ·rw [hw,not_or] at hr
    rw [h2 r' hr.1,n9]
    rw [if_neg fun x=>hr.2 x.1.symm]
   ·have hne:r'≠r:=fun e=>hr.1.1 (by simp [e])
    have:=hs r' p ⟨⟨fun hm=>hr.1.1 (by simp [hm]),fun q hm=>hr.1.2 q (by simp [hm])⟩,fun q hm=>hr.2 q (by simp [hm])⟩
    rw [n9,if_neg fun x=>hne x.1.symm] at this
    exact this
   ·have hne:r'≠r:=fun e=>hr.1 (by simp [e])
    have:=ht r' ⟨fun hm=>hr.1 (by simp [hm]),fun q hm=>hr.2 q (by simp [hm])⟩
    rw [n9,if_neg fun x=>hne x.1.symm] at this
    exact this
   ·have hτ:τ.has r=true:=by rw [R5] at *;rwa [hk]
    obtain ⟨τ1,t1,t2,t3,t4⟩:=h3 (τ.set r c) ((r,.wr)::L') (by rw [E1,E1,hk]) fun r' b hm=>by
     rw [n9,n9,hh,hτ]
     by_cases er:r=r'
     ·exact b3J (by simp [er]) b
     ·simp only [er,false_and,if_false]
      exact ha r' b (by simp [hm])
    refine ⟨τ1,by simp only [Pr.run,hτ,cond_true];rw [t1];simp,by rw [t2,E1],fun r' hr=>?_,fun r' hr=>?_⟩
    ·by_cases hm:wrote M r'
     ·exact t3 r' hm
     ·rw [hw] at hr
      obtain rfl:=hr.resolve_left hm
      rw [t4 _ hm,h2 _ hm,n9,n9,hh,hτ]
      simp
    ·rw [hw,not_or] at hr
     rw [t4 _ hr.1,n9,if_neg fun x=>hr.2 x.1.symm]
 | up r q u k ih =>
  intro σ L a σ1 L1 h
  simp only [Pr.run] at h
  cases hh':(σ.has r&&G9 (σ.get r).rows q) with
  | false=>simp [hh'] at h
  | true =>
   simp only [hh',cond_true] at h
   simp only [Bool.and_eq_true] at hh'
   obtain ⟨hh,hc⟩:=hh'
   refine write (.up q) (c5v q u) (fun c=>G9 c.rows q) r k σ L a σ1 L1 hh hc (.inr (.inl ⟨q,rfl⟩)) (fun c c' e=>e) (fun p _ ho g hg=>hg _ q u (ho q rfl) hc) (fun hx=>absurd rfl (hx.2 q)) (ih _ _ a σ1 L1 h) _ (fun τ L' ht hk=>?_) (fun e=>by cases e)
   simp only [Pr.run,ht,hk,Bool.and_self,cond_true]
 | mv r q u k ih =>
  intro σ L a σ1 L1 h
  simp only [Pr.run] at h
  cases hh':(σ.has r&&G9 (σ.get r).rows q) with
  | false=>simp [hh'] at h
  | true =>
   simp only [hh',cond_true] at h
   simp only [Bool.and_eq_true] at hh'
   obtain ⟨hh,hc⟩:=hh'
   refine write (.dn q) (mvC q u) (fun c=>G9 c.rows q) r k σ L a σ1 L1 hh hc (.inr (.inr ⟨q,rfl⟩)) (fun c c' e=>e) (fun p hx=>absurd rfl (hx.2 q)) (fun _=>f0R hc) (ih _ _ a σ1 L1 h) _ (fun τ L' ht hk=>?_) (fun e=>by cases e)
   simp only [Pr.run,ht,hk,Bool.and_self,cond_true]
 | call f ags k ih =>
  intro σ L a σ1 L1 h
  simp only [Pr.run] at h
  rcases φ.det f ags with hd | ⟨rs,outs,hd⟩
  ·rw [hd] at h;cases h
  ·rw [hd] at h
   obtain ⟨M,e,h1,h2,hs,h3⟩:=ih rs outs σ _ a σ1 L1 h
   refine ⟨M,e,h1,h2,hs,fun τ L' hk ha=>?_⟩
   obtain ⟨τ1,t1,t2⟩:=h3 τ L' hk ha
   exact ⟨τ1,by simp only [Pr.run,hd];exact t1,t2⟩
 | ask f k ih=>intro σ L a σ1 L1 h;exact ih _ _ _ _ _ _ h
 | br b x y ihx ihy =>
  intro σ L a σ1 L1 h
  cases b with
  | true=>exact ihx _ _ _ _ _ h
  | false=>exact ihy _ _ _ _ _ h
 | fail=>intro σ L a σ1 L1 h;exact absurd h (by simp [Pr.run])
theorem a3c {L L':Log} (h:a7q L L'=true) {r:Nat} {b b':Acc} (h1:(r,b)∈L) (h2:(r,b')∈L'):a7p b b'=true:=by
 unfold a7q at h
 rw [List.all_eq_true] at h
 have:=h _ h1
 rw [List.all_eq_true] at this
 have:=this _ h2
 simpa [E5] using this
/-- Where one writes the other one reads at most beside it. -/
theorem b6L {L L':Log} (h:a7q L L'=true) {r:Nat} (hw:wrote L r):¬ wrote L' r∧∀ x,(r,x)∈L'→(∃ p,x=.hd p∧c5K L r p)∨(x=.tp∧b5w L r):=by
 have key:∀ x,(r,x)∈L'→(∃ p,x=.hd p)∨x=.tp:=fun x hx=>by
  rcases hw with hw | ⟨q,hw⟩ | ⟨q,hw⟩ <;> have:=a3c h hw hx <;> cases x <;> simp [a7p] at this ⊢
 have kw:∀ x,(r,x)∈L'→x≠.wr∧(∀ q,x≠.up q)∧∀ q,x≠.dn q:=fun x hx=>by
  rcases key x hx with ⟨p,rfl⟩ | rfl <;> exact ⟨(fun e=>by cases e),(fun q e=>by cases e),(fun q e=>by cases e)⟩
 refine ⟨fun hw'=>?_,fun x hx=>?_⟩
 ·rcases hw' with hw' | ⟨q,hw'⟩ | ⟨q,hw'⟩
  ·exact (kw _ hw').1 rfl
  ·exact (kw _ hw').2.1 q rfl
  ·exact (kw _ hw').2.2 q rfl
 ·rcases key x hx with ⟨p,rfl⟩ | rfl
  ·refine .inl ⟨p,rfl,⟨fun hm=>?_,fun q hm=>?_⟩,fun q hm=>?_⟩
   ·have:=a3c h hm hx
    simp [a7p] at this
   ·have:=a3c h hm hx
    simp [a7p] at this
   ·have:=a3c h hm hx
    simpa [a7p] using this
  ·refine .inr ⟨rfl,fun hm=>?_,fun q hm=>?_⟩
   ·have:=a3c h hm hx
    simp [a7p] at this
   ·have:=a3c h hm hx
    simp [a7p] at this
theorem d7q {x y:Acc} (h:a7p x y=true):a7p y x=true:=by cases x <;> cases y <;> first | exact h | (simp [a7p] at h)
theorem d9m {L L':Log} (h:a7q L L'=true):a7q L' L=true:=by
 unfold a7q
 rw [List.all_eq_true]
 intro x hx
 rw [List.all_eq_true]
 intro y hy
 obtain ⟨r,x⟩:=x
 obtain ⟨r',y⟩:=y
 by_cases e:r=r'
 ·subst e
  simp [d7q (a3c h hy hx)]
 ·simp [E4 e]
theorem d9n:∀ {σ τ:St},(σ.map (·.1)).Nodup→τ.map (·.1)=σ.map (·.1)→(∀ r,τ.get r=σ.get r)→τ=σ
 | [],[],_,_,_=>rfl
 | [],_::_,_,h,_=>by simp at h
 | _::_,[],_,h,_=>by simp at h
 | (r,c)::σ,(r',c')::τ,hn,h,hg=>by
  simp only [List.map_cons,List.cons.injEq] at h
  obtain ⟨rfl,hk⟩:=h
  simp only [List.map_cons,List.nodup_cons] at hn
  have hc:=hg r'
  simp only [St.get,E5,cond_true] at hc
  subst hc
  congr 1
  refine d9n hn.2 hk fun r=>?_
  by_cases e:r'=r
  ·subst e
   have h1:St.has σ r'=false:=by
    cases hh:St.has σ r' with
    | false=>rfl
    | true=>exact absurd ((R5 σ r').1 hh) hn.1
   have h2:St.has τ r'=false:=by
    cases hh:St.has τ r' with
    | false=>rfl
    | true=>exact absurd ((R5 τ r').1 hh) (by rw [hk];exact hn.1)
   rw [b6F _ _ h1,b6F _ _ h2]
  ·have:=hg r
   simpa only [St.get,E4 e,cond_false] using this
theorem e7K {α β:Type} {φ:Sems} {p:Pr α} {q:Pr β} {σ σ1 σ2:St} {a:α} {b:β} {M N:Log} (hn:(σ.map (·.1)).Nodup) (hp:p.run φ σ []=some (a,σ1,M)) (hq:q.run φ σ1 []=some (b,σ2,N)) (hd:a7q M N=true) :
  ∃ τ1,q.run φ σ []=some (b,τ1,N)∧p.run φ τ1 []=some (a,σ2,M):=by
 obtain ⟨M',e,p1,p2,p4,p3⟩:=b3K φ p _ _ _ _ _ hp
 simp only [List.append_nil] at e
 subst e
 obtain ⟨N',e,q1,q2,q4,q3⟩:=b3K φ q _ _ _ _ _ hq
 simp only [List.append_nil] at e
 subst e
 have hd':=d9m hd
 obtain ⟨τ1,t1,t2,t3,t4⟩:=q3 σ [] p1.symm fun r x hm=>by
  by_cases hw:wrote M r
  ·rcases (b6L hd hw).2 x hm with ⟨y,rfl,ho⟩ | ⟨rfl,ho⟩
   ·exact fun g hg=>(p4.1 r y ho g hg).symm
   ·exact fun z=>(p4.2 r ho z).symm
  ·exact b3J (p2 r hw).symm x
 simp only [List.append_nil] at t1
 obtain ⟨N'',e',_,u2',u4',_⟩:=b3K φ q _ _ _ _ _ t1
 simp only [List.append_nil] at e'
 subst e'
 obtain ⟨τ2,u1,u2,u3,u4⟩:=p3 τ1 [] t2 fun r x hm=>by
  by_cases hw:wrote N r
  ·rcases (b6L hd' hw).2 x hm with ⟨y,rfl,ho⟩ | ⟨rfl,ho⟩
   ·exact u4'.1 r y ho
   ·exact u4'.2 r ho
  ·exact b3J (u2' r hw) x
 simp only [List.append_nil] at u1
 refine ⟨τ1,t1,?_⟩
 have:τ2=σ2:=by
  refine d9n (by rw [q1,p1];exact hn) (by rw [u2,t2,q1,p1]) fun r=>?_
  by_cases h1:wrote N r
  ·rw [u4 r (b6L hd' h1).1,t3 r h1]
  ·rw [q2 r h1]
   by_cases h2:wrote M r
   ·exact u3 r h2
   ·rw [u4 r h2,t4 r h1,p2 r h2]
 rw [u1,this]
/-! ### the operations of a region, in the order of the text -/
section
variable {P:Program} {φ:Sems}
def Runs (P:Program) (φ:Sems) (ops:Array Oper):St→List (Nat × Oper × Log)→St→Prop
 | σ,[],σf=>σ=σf
 | σ,x::l,σf=>∃ σ1,(c0A P ops x.2.1).run φ σ []=some ((),σ1,x.2.2)∧Runs P φ ops σ1 l σf
theorem e3U {α:Type} {p:Pr α} {σ L a σ1 L1} (h:p.run φ σ L=some (a,σ1,L1)):σ1.map (·.1)=σ.map (·.1):=by
 obtain ⟨_,_,h,_⟩:=b3K φ p _ _ _ _ _ h
 exact h
theorem d0r {ops:Array Oper} {x:Nat × Oper × Log} {B:List (Nat × Oper × Log)} {σf:St}:∀ (A:List (Nat × Oper × Log)) (σ:St),(σ.map (·.1)).Nodup→Runs P φ ops σ (A ++ x::B) σf→(∀ y∈A,a7q y.2.2 x.2.2=true) →
  ∃ σ1,(c0A P ops x.2.1).run φ σ []=some ((),σ1,x.2.2)∧Runs P φ ops σ1 (A ++ B) σf
 | [],σ,_,h,_=>h
 | y::A,σ,hn,⟨σ1,h1,h2⟩,hd=>by
  obtain ⟨σ2,h3,h4⟩:=d0r A σ1 (by rw [e3U h1];exact hn) h2 fun z hz=>hd z (by simp [hz])
  obtain ⟨τ,t1,t2⟩:=e7K hn h1 h3 (hd y (by simp))
  exact ⟨τ,t1,σ2,t2,h4⟩
/-! ### which operations wait for which -/
theorem b0A {acc:List Nat} {j:Nat}:∀ {es:List Edge},Nat.testBit (a1L acc es) j=true→∃ e∈es,Region.binds .any e=true∧(e.on=j∨Nat.testBit (acc.getD e.on 0) j=true)
 | [],h=>by simp [a1L] at h
 | e::es,h=>by
  unfold a1L at h
  rw [List.foldr_cons] at h
  cases hb:Region.binds .any e with
  | false =>
   rw [hb,cond_false] at h
   obtain ⟨e',h1,h2⟩:=b0A (es:=es) h
   exact ⟨e',by simp [h1],h2⟩
  | true =>
   rw [hb,cond_true,Nat.testBit_or,Nat.testBit_or,Bool.or_eq_true,Bool.or_eq_true] at h
   rcases h with (h | h) | h
   ·obtain ⟨e',h1,h2⟩:=b0A (es:=es) h
    exact ⟨e',by simp [h1],h2⟩
   ·refine ⟨e,by simp,hb,.inl ?_⟩
    rw [Nat.testBit_two_pow] at h
    simpa using h
   ·exact ⟨e,by simp,hb,.inr h⟩
theorem d0s:∀ (l:List Oper) (acc:List Nat),∃ rest,a5o l acc=acc ++ rest
 | [],acc=>⟨[],by simp [a5o]⟩
 | o::l,acc=>by
  obtain ⟨rest,h⟩:=d0s l (acc ++ [a1L acc o.after.toList])
  exact ⟨a1L acc o.after.toList::rest,by rw [a5o,h];simp⟩
theorem e3V {acc rest:List Nat} {k j:Nat} (h:Nat.testBit (acc.getD k 0) j=true):Nat.testBit ((acc ++ rest).getD k 0) j=true:=by
 rw [List.getD_eq_getElem?_getD] at *
 cases hk:acc[k]? with
 | none=>rw [hk] at h;simp at h
 | some v=>rw [hk] at h;rw [List.getElem?_append_left (List.getElem?_eq_some_iff.1 hk).1,hk];exact h
theorem c7N:∀ (l:List Oper) (acc:List Nat) (i:Nat) (o:Oper) (j:Nat),l[i]?=some o→Nat.testBit ((a5o l acc).getD (acc.length+i) 0) j=true →
  ∃ e∈o.after.toList,Region.binds .any e=true∧(e.on=j∨Nat.testBit ((a5o l acc).getD e.on 0) j=true)
 | [],_,_,_,_,h,_=>by simp at h
 | o::l,acc,0,o',j,h,hb=>by
  simp at h
  subst h
  obtain ⟨rest,e⟩:=d0s l (acc ++ [a1L acc o.after.toList])
  have e':a5o (o::l) acc=acc ++ (a1L acc o.after.toList::rest):=by rw [a5o,e];simp
  rw [e'] at hb ⊢
  rw [List.getD_eq_getElem?_getD] at hb
  simp only [Nat.add_zero,List.getElem?_append_right (Nat.le_refl _),Nat.sub_self,List.getElem?_cons_zero,Option.getD_some] at hb
  obtain ⟨e1,h1,h2,h3⟩:=b0A hb
  exact ⟨e1,h1,h2,h3.imp id e3V⟩
 | o::l,acc,i+1,o',j,h,hb=>by
  simp at h
  rw [a5o] at hb ⊢
  exact c7N l (acc ++ [a1L acc o.after.toList]) i o' j h (by simpa [Nat.add_assoc,Nat.add_comm 1 i] using hb)
theorem b8Z:∀ (l:List Oper) (i0:Nat),a6b l i0=true→∀ i o,l[i]?=some o→∀ e∈o.after.toList,Region.binds .any e=true→e.on < i0+i
 | [],_,_,_,_,h,_,_,_=>by simp at h
 | o::l,i0,hk,0,o',h,e,he,hb=>by
  simp at h
  subst h
  simp only [a6b,Bool.and_eq_true,List.all_eq_true] at hk
  have:=hk.1 e he
  simpa [hb] using this
 | o::l,i0,hk,i+1,o',h,e,he,hb=>by
  simp at h
  simp only [a6b,Bool.and_eq_true] at hk
  have:=b8Z l (i0+1) hk.2 i o' h e he hb
  omega
def apartB (bef:List Nat) (x y:Nat × Oper × Log):Prop:=Nat.testBit (bef.getD y.1 0) x.1=true∨a7q x.2.2 y.2.2=true
/-! ### any order -/
structure Held (P:Program) (φ:Sems) (ops:Array Oper) (bef:List Nat) (listed:Array Bool) (rem:List (Nat × Oper × Log)) (σ σf:St):Prop where
 size:listed.size=ops.size
 mem:∀ i o,(∃ L,(i,o,L)∈rem)↔(ops[i]?=some o∧listed.getD i true=false)
 ord:rem.Pairwise fun x y=>x.1 < y.1
 apart:rem.Pairwise (apartB bef)
 down:∀ k,listed.getD k false=true→∀ j,Nat.testBit (bef.getD k 0) j=true→listed.getD j false=true
 runs:Runs P φ ops σ rem σf
theorem e7L {listed:Array Bool} {i:Nat} (h:listed.getD i true=false) (h':listed.getD i false=true):False:=by
 rw [Array.getD_eq_getD_getElem?] at h h'
 cases hi:listed[i]? with
 | none=>simp [hi] at h
 | some b=>rw [hi] at h h';simp at h h';rw [h] at h';cases h'
theorem d9o (hφ:V0 P φ) {ops:Array Oper} {Q:Exit→Act→World→Prop} {E:Env} (hE:a6b ops.toList 0=true) {σf:St} (hQ:∀ a w,S E σf a w→Q .normal a w) :
  ∀ (fuel:Nat) (listed:Array Bool) (rem:List (Nat × Oper × Log)) (σ:St) (a:Act) (w:World),Held P φ ops (a5o ops.toList []) listed rem σ σf→rem.length=fuel→S E σ a w→wpAny P .any ops Q fuel listed a w:=by
 have hready:∀ {listed rem σ},Held P φ ops (a5o ops.toList []) listed rem σ σf→Region.ready .any ops listed=[]→rem=[]:=by
  intro listed rem σ h hr
  match rem,h with
  | [],_=>rfl
  | (i,o,L)::rem,h =>
   exfalso
   obtain ⟨ho,hu⟩:=(h.mem i o).1 ⟨L,by simp⟩
   have:i∈Region.ready .any ops listed:=by
    refine mem_ready.2 ⟨hu,o,ho,fun e he hb=>?_⟩
    have hlt:=b8Z _ _ hE i o (by simpa using ho) e (by simpa using he) hb
    simp only [Nat.zero_add] at hlt
    have hi:i < ops.size:=(Array.getElem?_eq_some_iff.1 ho).1
    have hs:e.on < listed.size:=by rw [h.size];omega
    cases hl:listed.getD e.on false with
    | true=>rfl
    | false =>
     exfalso
     have hl':listed.getD e.on true=false:=by
      rw [Array.getD_eq_getD_getElem?,Array.getElem?_eq_getElem hs] at *
      simpa using hl
     have hs':e.on < ops.size:=by omega
     obtain ⟨L',hm⟩:=(h.mem e.on ops[e.on]).2 ⟨Array.getElem?_eq_getElem hs',hl'⟩
     rcases List.mem_cons.1 hm with he | hm
     ·have:e.on=i:=congrArg (·.1) he
      omega
     ·have:i < e.on:=List.rel_of_pairwise_cons h.ord hm
      omega
   rw [hr] at this
   cases this
 intro fuel
 induction fuel with
 | zero =>
  intro listed rem σ a w h hl hS
  have:rem=[]:=List.eq_nil_of_length_eq_zero hl
  subst this
  refine ⟨?_,hQ a w (by have:=h.runs;exact this ▸ hS)⟩
  cases hr:Region.ready .any ops listed with
  | nil=>rfl
  | cons i l =>
   have hi:i∈Region.ready .any ops listed:=by rw [hr];simp
   obtain ⟨hu,o,ho,_⟩:=mem_ready.1 hi
   obtain ⟨L,hm⟩:=(h.mem i o).2 ⟨ho,hu⟩
   simp at hm
 | succ fuel ih =>
  intro listed rem σ a w h hl hS
  refine ⟨fun hr=>?_,fun i hi=>?_⟩
  ·have:=hready h hr
   subst this
   simp at hl
  ·obtain ⟨hu,o,ho,hall⟩:=mem_ready.1 hi
   obtain ⟨L,hm⟩:=(h.mem i o).2 ⟨ho,hu⟩
   obtain ⟨A,B,hAB⟩:=List.append_of_mem hm
   subst hAB
   have hisz:i < listed.size:=by rw [h.size];exact (Array.getElem?_eq_some_iff.1 ho).1
   have hbits:∀ j,Nat.testBit ((a5o ops.toList []).getD i 0) j=true→listed.getD j false=true:=fun j hj=>by
    obtain ⟨e,he,hb,hc⟩:=c7N ops.toList [] i o j (by simpa using ho) (by simpa using hj)
    have hle:=hall e (by simpa using he) hb
    rcases hc with rfl | hc
    ·exact hle
    ·exact h.down _ hle j hc
   have hap:=List.pairwise_append.1 h.apart
   have hor:=List.pairwise_append.1 h.ord
   obtain ⟨G,hG,_⟩:=id hS
   obtain ⟨σ1,hrun,hrest⟩:=d0r A σ hG.nd h.runs fun y hy=>by
    rcases hap.2.2 y hy (i,o,L) (by simp) with hb | hd
    ·exfalso
     obtain ⟨j,oj,Lj⟩:=y
     have h1:=(h.mem j oj).1 ⟨Lj,by simp [hy]⟩
     exact e7L h1.2 (hbits j hb)
    ·exact hd
   refine c4f hφ ho hS hrun fun a' w' hS'=>ih (listed.setIfInBounds i true) (A ++ B) σ1 a' w' ?_ (by simp at hl ⊢;omega) hS'
   have hsub:(A ++ B).Sublist (A ++ (i,o,L)::B):=List.Sublist.append_left (List.sublist_cons_self _ _) _
   refine ⟨by simp [h.size],fun k ok=>⟨fun ⟨Lk,hk⟩=>?_,fun ⟨h1,h2⟩=>?_⟩,h.ord.sublist hsub,h.apart.sublist hsub,fun k hk j hj=>?_,hrest⟩
   ·have hne:i≠k:=by
     intro e
     rcases List.mem_append.1 hk with hk | hk
     ·have:=hor.2.2 _ hk (i,o,L) (by simp)
      simp only at this
      omega
     ·have:=List.rel_of_pairwise_cons hor.2.1 hk
      simp only at this
      omega
    rw [getD_set_ne true hne]
    exact (h.mem k ok).1 ⟨Lk,hsub.subset hk⟩
   ·have hne:i≠k:=by
     intro e
     subst e
     rw [Array.getD_eq_getD_getElem?] at h2
     simp [hisz] at h2
    rw [getD_set_ne true hne] at h2
    obtain ⟨Lk,hk⟩:=(h.mem k ok).2 ⟨h1,h2⟩
    rcases List.mem_append.1 hk with hk | hk
    ·exact ⟨Lk,by simp [hk]⟩
    ·rcases List.mem_cons.1 hk with e | hk
     ·exact absurd (congrArg (·.1) e).symm hne
     ·exact ⟨Lk,by simp [hk]⟩
   ·by_cases e:i=k
    ·subst e
     exact getD_set_true (hbits j hj)
    ·rw [getD_set_ne false e] at hk
     exact getD_set_true (h.down k hk j hj)
/-! ### the text's order, from the operations' own run -/
theorem R6 {σ:St} {r:Nat} {c:Ct} (h:σ.get r=c):σ.set r c=σ:=by
 induction σ with
 | nil=>rfl
 | cons x σ ih =>
  obtain ⟨r',c'⟩:=x
  cases hb:Nat.beq r' r with
  | true =>
   simp only [St.get,hb,cond_true] at h
   simp only [St.set,hb,cond_true,h]
  | false =>
   simp only [St.get,hb,cond_false] at h
   simp only [St.set,hb,cond_false,ih h]
theorem d9p {R:Type} (t:Tmp) (σ:St) (K:St→R):c9U t σ K=K σ:=by
 unfold c9U
 split
 ·rename_i ver o b h
  cases b with
  | true=>simp only [cond_true];rw [R6 h]
  | false=>simp only [cond_false];rw [R6 h]
 ·rfl
theorem c7O {R:Type} (ops:Array Oper) (o:Oper) (σ:St) (K:St→R):c9V ops o σ K=K σ:=by
 unfold c9V
 split
 ·rfl
 ·split
  ·exact d9p _ σ K
  ·rfl
theorem c7P {ops:Array Oper}:∀ (l:List Oper) (i:Nat) (σ:St) (Ls:List (Nat × Log)) (K:St→List (Nat × Log)→Prop),c2n P φ False ops l i σ Ls K →
  ∃ (rem:List (Nat × Oper × Log)) (σf:St),Runs P φ ops σ rem σf∧(rem.map fun x=>(x.1,x.2.1))=(l.zipIdx i).map (fun x=>(x.2,x.1))∧K σf ((rem.map fun x=>(x.1,x.2.2)).reverse ++ Ls)
 | [],i,σ,Ls,K,h=>⟨[],σ,rfl,rfl,h⟩
 | o::l,i,σ,Ls,K,h=>by
  simp only [c2n,c7O] at h
  obtain ⟨_,σ1,L,h1,h2⟩:=(c4e φ (c0A P ops o) σ [] _).1 h
  obtain ⟨rem,σf,h3,h4,h5⟩:=c7P l (i+1) σ1 ((i,L)::Ls) K h2
  exact ⟨(i,o,L)::rem,σf,⟨σ1,h1,h3⟩,by simp [h4],by simpa using h5⟩
theorem d3M {bef:List Nat}:∀ (rem:List (Nat × Oper × Log)),b1z bef ((rem.map fun x=>(x.1,x.2.2)).reverse)=true→rem.Pairwise (apartB bef):=by
 intro rem h
 have key:∀ l:List (Nat × Log),b1z bef l=true→l.Pairwise fun y x=>Nat.testBit (bef.getD y.1 0) x.1=true∨a7q x.2 y.2=true:=by
  intro l
  induction l with
  | nil=>intro _;exact .nil
  | cons y l ih =>
   intro h
   obtain ⟨j,L⟩:=y
   simp only [b1z,Bool.and_eq_true,List.all_eq_true,Bool.or_eq_true] at h
   exact List.pairwise_cons.2 ⟨fun x hx=>h.1 x hx,ih h.2⟩
 have:=key _ h
 rw [List.pairwise_reverse,List.pairwise_map] at this
 exact this
/-! ### trimming -/
theorem e7M (τ:St) (r r':Nat):(τ.del r).get r'=if r'=r then ⟨z0,[]⟩ else τ.get r':=by
 unfold St.del
 induction τ with
 | nil=>simp [St.get]
 | cons x τ ih =>
  obtain ⟨r0,c⟩:=x
  by_cases e:r0=r
  ·subst e
   simp only [List.filter_cons,E5,Bool.not_true,Bool.false_eq_true,if_false,ih]
   by_cases e':r'=r0
   ·simp [e']
   ·have e2:r0≠r':=fun h=>e' h.symm
    simp [e',St.get,E4 e2]
  ·simp only [List.filter_cons,E4 e,Bool.not_false,if_true]
   by_cases e':r'=r
   ·subst e'
    simp only [St.get,E4 e,cond_false,ih,if_true]
   ·simp only [if_neg e',St.get,ih]
theorem d0t (τ:St) (r x:Nat):x∈(τ.del r).map (·.1)↔x∈τ.map (·.1)∧x≠r:=by
 unfold St.del
 simp only [List.mem_map,List.mem_filter]
 constructor
 ·rintro ⟨y,⟨h1,h2⟩,rfl⟩
  refine ⟨⟨y,h1,rfl⟩,fun e=>?_⟩
  rw [e,E5] at h2
  simp at h2
 ·rintro ⟨⟨y,h1,rfl⟩,h2⟩
  exact ⟨y,⟨h1,by simp [E4 h2]⟩,rfl⟩
theorem b0X (σ:St):∀ (keep:List Nat) (τ:St),(∀ x,x∈(a9p σ keep τ).map (·.1)→x∈τ.map (·.1))∧((a9p σ keep τ).map (·.1)).Nodup
 | [],τ=>⟨fun x h=>by simp [a9p] at h,by simp [a9p]⟩
 | r::keep,τ=>by
  simp only [a9p]
  cases hh:τ.has r with
  | false=>exact b0X σ keep τ
  | true =>
   obtain ⟨h1,h2⟩:=b0X σ keep (τ.del r)
   simp only [cond_true,List.map_cons,List.mem_cons,List.nodup_cons]
   refine ⟨fun x hx=>?_,fun hm=>((d0t _ _ _).1 (h1 _ hm)).2 rfl,h2⟩
   rcases hx with rfl | hx
   ·exact (R5 _ _).1 hh
   ·exact ((d0t _ _ _).1 (h1 _ hx)).1
theorem b3L (σ:St) (r:Nat):∀ (keep:List Nat) (τ:St),(a9p σ keep τ).get r=bif b6E r keep then ⟨z0,a6c σ (τ.get r).rows⟩ else ⟨z0,[]⟩
 | [],τ=>rfl
 | r'::keep,τ=>by
  simp only [a9p,b6E]
  by_cases e:r'=r
  ·subst e
   simp only [E5,cond_true]
   cases hh:τ.has r' with
   | true=>simp only [cond_true,St.get,E5]
   | false =>
    simp only [cond_false]
    rw [b3L σ r' keep τ,b6F _ _ hh]
    cases b6E r' keep <;> rfl
  ·simp only [E4 e,cond_false]
   have e':¬ r=r':=fun h=>e h.symm
   cases hh:τ.has r' with
   | true =>
    simp only [cond_true,St.get,E4 e,cond_false]
    rw [b3L σ r keep (τ.del r'),e7M,if_neg e']
   | false =>
    simp only [cond_false]
    exact b3L σ r keep τ
theorem b6M (keep:List Nat) (σ:St) (r:Nat):(norm keep σ).get r=bif b6E r keep then ⟨z0,a6c σ (σ.get r).rows⟩ else ⟨z0,[]⟩:=b3L σ r keep σ
theorem R1.fix {E G} {σ:St} {x:Pt} {v:Value} {w:World} {g:Gh} (h:R1 E G (fun r=>(σ.get r).ver) x v):l4 E G (fun _=>z0) w g (c3Q σ x) v:=by
 cases x with
 | pim m g=>exact h
 | ptr r ver p m j k =>
  obtain ⟨b,o,hv,h0,h1,h2⟩:=h
  simp only [c3Q]
  cases hb:Nat.beq ((σ.get r).ver p) ver with
  | true=>exact ⟨b,o,hv,h0,Nat.le_refl _,fun _=>h2 (j8 hb)⟩
  | false=>subst hv;rfl
theorem c1k {σ:St}:∀ {l l':List Pt},b8z σ l=some l'→l'.length=l.length∧∀ (i:Nat) y,l'[i]?=some y→∃ x,l[i]?=some x∧c3Q σ x=.pt y
 | [],l',h=>by simp [b8z] at h;subst h;exact ⟨rfl,fun i y hy=>by simp at hy⟩
 | x::l,l',h=>by
  simp only [b8z] at h
  split at h
  ·rename_i y l2 h1 h2
   have h:=Option.some.inj h
   subst h
   obtain ⟨e,hi⟩:=c1k h2
   refine ⟨by simp [e],fun i z hz=>?_⟩
   cases i with
   | zero=>simp at hz;subst hz;exact ⟨x,rfl,h1⟩
   | succ i=>simp at hz;simpa using hi i z hz
  ·cases h
theorem l4.fix {E G} {σ:St} {c:C} {v:Value} {w:World} {g:Gh} (h:l4 E G (fun r=>(σ.get r).ver) w g c v):l4 E G (fun _=>z0) w g (c2m σ c) v:=by
 cases c with
 | tr o t=>cases o with
  | true=>exact h
  | false=>cases t <;> exact h
 | dead=>exact h
 | pt x=>exact R1.fix h
 | fn f caps =>
  obtain ⟨vs,h1,h2,h3⟩:=h
  simp only [c2m]
  split
  ·rename_i l hl
   obtain ⟨e,hi⟩:=c1k hl
   refine ⟨vs,h1,h2.trans e.symm,fun i y hy=>?_⟩
   obtain ⟨x,hx,he⟩:=hi i y hy
   obtain ⟨u,hu,hr⟩:=h3 i x hx
   refine ⟨u,hu,?_⟩
   have:=R1.fix (w:=w) (g:=g) hr
   rw [he] at this
   exact this
  ·subst h1;rfl
 | ref r ver p m s n =>
  obtain ⟨A,cap,h1,h2,h3,h4,h5⟩:=h
  simp only [c2m]
  cases hb:Nat.beq ((σ.get r).ver p) ver with
  | true=>exact ⟨A,cap,h1,h2,h3,Nat.le_refl _,fun _=>h5 (j8 hb)⟩
  | false=>subst h1;rfl
theorem RelCs.fix {E G} {σ:St} {cs:List C} {vs:Array Value} {w:World} {g:Nat→Gh} (h:RelCs E G (fun r=>(σ.get r).ver) w g cs vs):RelCs E G (fun _=>z0) w g (cs.map (c2m σ)) vs:=by
 refine ⟨by simpa using h.1,fun k c hk=>?_⟩
 rw [List.getElem?_map] at hk
 cases hc:cs[k]? with
 | none=>rw [hc] at hk;cases hk
 | some c0 =>
  rw [hc] at hk
  have:=Option.some.inj hk
  subst this
  obtain ⟨u,hu,hr⟩:=h.2 k c0 hc
  exact ⟨u,hu,hr.fix⟩
theorem i7.fix {E G} {σ:St} {row:Row} {v:Value} {w:World} {g:Nat→Gh} (h:i7 E G (fun r=>(σ.get r).ver) w g row v):i7 E G (fun _=>z0) w g (row.1,row.2.map (c2m σ)) v:=by
 obtain ⟨ag,cs⟩:=row
 cases ag with
 | true=>obtain ⟨vs,e,hc⟩:=h;exact ⟨vs,e,hc.fix⟩
 | false=>match cs,h with
  | [],hx=>exact hx
  | [c],hx=>exact l4.fix hx
theorem RelRows.fix {E G} {σ:St} {rows:List Row} {v:Value} {w:World} {g:Gh} (h:RelRows E G (fun r=>(σ.get r).ver) w g rows v):RelRows E G (fun _=>z0) w g (a6c σ rows) v:=by
 match rows,h with
 | [],_=>trivial
 | [row],hx=>exact i7.fix (row:=row) (g:=fun k q=>g (0::k::q)) hx
 | r::r'::rs,hx =>
  obtain ⟨vs,e,hs,hi⟩:=hx
  refine ⟨vs,e,by simpa using hs,fun i row hr=>?_⟩
  have hr':(a6c σ (r::r'::rs))[i]?=some row:=hr
  unfold a6c at hr'
  rw [List.getElem?_map] at hr'
  cases hc:(r::r'::rs)[i]? with
  | none=>rw [hc] at hr';cases hr'
  | some row0 =>
   rw [hc] at hr'
   have:=Option.some.inj hr'
   subst this
   obtain ⟨u,hu,h1⟩:=hi i row0 hc
   exact ⟨u,hu,h1.fix⟩
theorem S.norm {E σ a w} (h:S E σ a w) (keep:List Nat):S E (norm keep σ) a w:=by
 obtain ⟨G,hG,hp⟩:=h
 have hV:(fun r=>((Mach.norm keep σ).get r).ver)=fun _=>z0:=by
  funext r
  rw [b6M]
  cases b6E r keep <;> rfl
 refine ⟨G,⟨(b0X σ keep σ).2,hG.inj,hG.rng,hG.os,hG.tape,hG.output,hG.size,hG.kept,fun t=>?_,fun t=>?_,fun t=>?_,hG.xbox,hG.defers,hG.tm,fun t ht=>?_⟩,hp⟩
 ·rw [hV,b6M]
  cases b6E (slot t) keep with
  | true=>exact (hG.slots t).fix
  | false=>trivial
 ·rw [hV,b6M]
  cases b6E (box t) keep with
  | true =>
   refine (hG.boxes t).imp (fun e=>by simp [e,a6c]) fun ⟨row,b,cs,e,h1,h2,h3,h4⟩=>?_
   exact ⟨(row.1,row.2.map (c2m σ)),b,cs,e,by simp [h1,a6c],h2,h3,h4.fix⟩
  | false=>exact .inl rfl
 ·rw [hV,b6M]
  cases b6E (ext t) keep with
  | true=>exact (hG.exts t).fix
  | false=>trivial
 ·refine hG.here t ?_
  rw [R5] at *
  exact (b0X σ keep σ).1 _ ht
/-! ### a whole region -/
theorem S.drawn {E σ a w} (h:S E σ a w):S E σ a { w with drawn:=w.drawn+1 }:=by
 obtain ⟨G,hG,hp⟩:=h
 exact ⟨G,hG.world rfl rfl rfl (Nat.le_refl _) (fun _ _=>rfl) (fun _ _ _ _ _=>rfl),hp⟩
theorem b5x (hφ:V0 P φ) {ops:Array Oper} {Q:Exit→Act→World→Prop} {E:Env} {σf:St} (hQ:∀ a w,S E σf a w→Q .normal a w) :
  ∀ (rem:List (Nat × Oper × Log)) (σ:St) (a:Act) (w:World),(∀ x∈rem,ops[x.1]?=some x.2.1)→Runs P φ ops σ rem σf→S E σ a w→wpOps P ops Q (rem.map (·.1)) a w
 | [],σ,a,w,_,h,hS=>hQ a w ((show σ=σf from h) ▸ hS)
 | x::rem,σ,a,w,hm,⟨σ1,h1,h2⟩,hS=>by
  rw [List.map_cons,wpOps_cons]
  exact c4f hφ (hm x (by simp)) hS h1 fun a' w' hS'=>b5x hφ hQ rem σ1 a' w' (fun y hy=>hm y (by simp [hy])) h2 hS'
theorem d0u (hφ:V0 P φ) (hm:P.follows .mixedOrders=true) {keep:List Nat} {id:Nat} {ops:Array Oper} {draw:Bool} {E:Env} {σ:St} {K:St→Prop} (h:c5B P φ keep E.nt False ops draw σ K)
  {a:Act} {w:World} (hS:S E σ a w) {Q:Exit→Act→World→Prop} (hQ:∀ σ' a' w',K σ'→S E σ' a' w'→Q .normal a' w'):(Code.region id ops draw).wp P Q a w:=by
 obtain ⟨rem,σf,hr,he,hk⟩:=c7P _ _ _ _ _ h
 simp only [List.append_nil] at hk
 have hidx:∀ i o,(i,o)∈(rem.map fun x=>(x.1,x.2.1))↔ops[i]?=some o:=fun i o=>by
  rw [he]
  simp only [List.mem_map,Prod.exists,Prod.mk.injEq]
  constructor
  ·rintro ⟨o',i',h1,rfl,rfl⟩
   have:=List.mem_zipIdx_iff_getElem?.1 h1
   simpa using this
  ·intro h1
   exact ⟨o,i,List.mem_zipIdx_iff_getElem?.2 (by simpa using h1),rfl,rfl⟩
 have hfst:rem.map (·.1)=List.range ops.size:=by
  have:rem.map (·.1)=((rem.map fun x=>(x.1,x.2.1)).map (·.1)):=by rw [List.map_map];rfl
  rw [this,he,List.map_map]
  have:((fun x:Nat × Oper=>x.1) ∘ fun x:Oper × Nat=>(x.2,x.1))=Prod.snd:=rfl
  rw [this,List.zipIdx_map_snd]
  simp [List.range_eq_range']
 cases hd:draw with
 | false =>
  rw [hd] at hk
  simp only [Bool.not_false,Bool.true_or,cond_true] at hk
  refine wp_region ?_
  rw [← hfst]
  exact b5x hφ (fun a' w' hS'=>hQ _ a' w' hk (hS'.norm keep)) rem _ a w (fun x hx=>(hidx _ _).1 (List.mem_map.2 ⟨x,hx,rfl⟩)) hr (hS.prep _)
 | true =>
  rw [hd] at hk
  simp only [Bool.not_true,Bool.false_or] at hk
  cases hg:(a6b ops.toList 0&&b1z (a5o ops.toList []) (rem.map fun x=>(x.1,x.2.2)).reverse) with
  | false=>rw [hg] at hk;exact hk.elim
  | true =>
   rw [hg] at hk
   simp only [cond_true] at hk
   simp only [Bool.and_eq_true] at hg
   refine wp_region_any hm ?_
   refine d9o hφ hg.1 (fun a' w' hS'=>hQ _ a' w' hk (hS'.norm keep)) ops.size _ rem _ a _ ⟨by simp,fun i o=>?_,?_,d3M _ hg.2,fun k hk=>?_,hr⟩ ?_ ((hS.prep _).drawn)
   ·constructor
    ·rintro ⟨L,hL⟩
     have h1:=(hidx i o).1 (List.mem_map.2 ⟨_,hL,rfl⟩)
     refine ⟨h1,?_⟩
     have:=(Array.getElem?_eq_some_iff.1 h1).1
     simp [Array.getD_eq_getD_getElem?,this]
    ·rintro ⟨h1,_⟩
     obtain ⟨⟨i',o',L⟩,hx,e⟩:=List.mem_map.1 ((hidx i o).2 h1)
     simp only [Prod.mk.injEq] at e
     obtain ⟨rfl,rfl⟩:=e
     exact ⟨L,hx⟩
   ·have:(rem.map (·.1)).Pairwise (· < ·):=by rw [hfst];exact List.pairwise_lt_range
    exact List.pairwise_map.1 this
   ·exfalso
    rw [Array.getD_eq_getD_getElem?] at hk
    by_cases h1:k < ops.size
    ·simp [h1] at hk
    ·simp [h1] at hk
   ·have:=congrArg List.length hfst
    simpa using this
end
end Go.Mach
namespace Go.Mach
def Ex.to:Ex→Exit
 | .normal=>.normal
 | .exit i=>.exit i
 | .ret=>.ret
section
variable {P:Program} {φ:Sems}
theorem S.drop {E σ a w} (h:S E σ a w) (t:Nat):S E (σ.set (slot t) ⟨(σ.get (slot t)).ver,[]⟩) a w:=by
 obtain ⟨G,hG,hp⟩:=h
 have hget:∀ r,((σ.set (slot t) ⟨(σ.get (slot t)).ver,[]⟩).get r).ver=(σ.get r).ver:=fun r=>by
  rw [n9]
  split
  ·rename_i e;rw [← e.1]
  ·rfl
 have hV:(fun r=>((σ.set (slot t) ⟨(σ.get (slot t)).ver,[]⟩).get r).ver)=fun r=>(σ.get r).ver:=funext hget
 refine ⟨G,⟨by rw [E1];exact hG.nd,hG.inj,hG.rng,hG.os,hG.tape,hG.output,hG.size,hG.kept,fun u=>?_,fun u=>?_,fun u=>?_,hG.xbox,hG.defers,hG.tm,fun u hu=>hG.here u (by rw [R5] at *;rwa [E1] at hu)⟩,hp⟩
 ·rw [hV,n9]
  split
  ·trivial
  ·exact hG.slots u
 ·rw [hV,n9,if_neg fun e=>A3 t u e.1]
  exact hG.boxes u
 ·rw [hV,n9,if_neg fun e=>J2 t u e.1]
  exact hG.exts u
theorem S.dropC {E σ a w} (h:S E σ a w) (c:Code) (t:Nat) {o:Bool} (hr:(σ.get (slot t)).rows=[(false,[.tr o (.bool true)])]):S E (Go.Mach.dropC c t o σ) a w:=by
 have e:σ.set (slot t) ⟨(σ.get (slot t)).ver,[(false,[.tr o (.bool true)])]⟩=σ:=R6 (by rw [← hr])
 cases c <;> first | exact h.drop t | (simp only [Go.Mach.dropC,e];exact h)
theorem c4h (hm:P.follows .mixedOrders=true) {kp:Nat→List Nat} {n:Nat} {E:Env} (hφ:V0 P φ):∀ (c:Code) (σ:St) (K:Ex→St→Prop) (Q:Exit→Act→World→Prop) (a:Act) (w:World),
  O4 P φ kp E.nt False n c σ K→S E σ a w→(∀ e σ' a' w',K e σ'→S E σ' a' w'→Q e.to a' w')→c.wp P Q a w:=by
 intro c
 induction c with
 | skip=>intro σ K Q a w h hS hQ;exact wp_skip (hQ .normal _ _ _ h hS)
 | ret=>intro σ K Q a w h hS hQ;exact wp_ret (hQ .ret _ _ _ h hS)
 | exit i=>intro σ K Q a w h hS hQ;exact wp_exit (hQ (.exit i) _ _ _ h hS)
 | seq x y ihx ihy =>
  intro σ K Q a w h hS hQ
  refine wp_seq (ihx σ _ _ a w h hS fun e σ' a' w' hK hS'=>?_)
  cases e with
  | normal=>exact ihy σ' K Q a' w' hK hS' hQ
  | exit i=>exact hQ (.exit i) _ _ _ hK hS'
  | ret=>exact hQ .ret _ _ _ hK hS'
 | block i x ih =>
  intro σ K Q a w h hS hQ
  refine wp_block (ih σ _ _ a w h hS fun e σ' a' w' hK hS'=>?_)
  cases e with
  | normal=>exact hQ .normal _ _ _ hK hS'
  | exit j =>
   simp only [Ex.to,Exit.inBlock]
   cases hb:Nat.beq j i with
   | true =>
    simp only [hb,cond_true] at hK
    rw [if_pos (j8 hb)]
    exact hQ .normal _ _ _ hK hS'
   | false =>
    simp only [hb,cond_false] at hK
    rw [if_neg fun e=>by rw [e,E5] at hb;cases hb]
    exact hQ (.exit j) _ _ _ hK hS'
  | ret=>exact hQ .ret _ _ _ hK hS'
 | cond c x y ihx ihy =>
  intro σ K Q a w h hS hQ
  cases c with
  | tmp t =>
   simp only [O4] at h
   split at h
   ·rename_i o p hrows
    have hv:a.eval (.tmp t)=.bool p:=by
     obtain ⟨G,hG,_⟩:=hS
     have:=hG.slots t
     rw [hrows] at this
     exact a6f (show l4 E G _ w _ (.tr o (.bool p)) _ from this)
    cases p with
    | true=>exact wp_cond_true hv (ihx _ K Q a w h (hS.dropC x t hrows) hQ)
    | false=>exact wp_cond_false hv (ihy _ K Q a w h (hS.drop t) hQ)
   ·exact h.elim
  | const v =>
   cases v with
   | bool p =>
    cases p with
    | true=>exact wp_cond_true rfl (ihx _ K Q a w h hS hQ)
    | false=>exact wp_cond_false rfl (ihy _ K Q a w h hS hQ)
   | _=>exact h.elim
  | _=>exact h.elim
 | loop x ih =>
  intro σ K Q a w h hS hQ
  refine wp_loop_rounds n ?_
  have key:∀ (m:Nat) (σ:St) (a:Act) (w:World),b3A False (O4 P φ kp E.nt False n x) m σ K→S E σ a w→Code.rounds P x Q m a w:=by
   intro m
   induction m with
   | zero=>intro σ a w h _;exact h.elim
   | succ m ihm =>
    intro σ a w h hS
    refine ih σ _ _ a w h hS fun e σ' a' w' hK hS'=>?_
    cases e with
    | normal=>exact ihm σ' a' w' hK hS'
    | exit i=>exact hQ (.exit i) _ _ _ hK hS'
    | ret=>exact hQ .ret _ _ _ hK hS'
  exact key n σ a w h hS
 | region id ops draw =>
  intro σ K Q a w h hS hQ
  exact d0u hφ hm h hS fun σ' a' w' hK hS'=>hQ .normal _ _ _ hK hS'
 | _=>intro σ K Q a w h hS hQ;exact h.elim
/-! ### computed and meant -/
section
variable {R R':Type} (h:R→R') {z:R} {z':R'} (hz:h z=z')
include hz
theorem d0v (ops:Array Oper):∀ (l:List Oper) (i:Nat) (σ:St) (Ls:List (Nat × Log)) (K:St→List (Nat × Log)→R),h (c2n P φ z ops l i σ Ls K)=c2n P φ z' ops l i σ Ls (fun σ Ls=>h (K σ Ls))
 | [],_,_,_,_=>rfl
 | o::l,i,σ,Ls,K=>by
  simp only [c2n,c7O]
  rw [b8Y φ h z z' hz]
  congr 1
  funext _ σ L
  exact d0v ops l (i+1) σ _ K
theorem c2x (kp:Nat→List Nat) (nt n:Nat):∀ (c:Code) (σ:St) (K:Ex→St→R),h (O4 P φ kp nt z n c σ K)=O4 P φ kp nt z' n c σ (fun e σ=>h (K e σ)):=by
 intro c
 induction c with
 | skip=>intro σ K;rfl
 | ret=>intro σ K;rfl
 | exit i=>intro σ K;rfl
 | seq x y ihx ihy =>
  intro σ K
  simp only [O4]
  rw [ihx]
  congr 1
  funext e σ
  cases e with
  | normal=>exact ihy σ K
  | exit i=>rfl
  | ret=>rfl
 | block i x ih =>
  intro σ K
  simp only [O4]
  rw [ih]
  congr 1
  funext e σ
  cases e with
  | normal=>rfl
  | exit j=>simp only;cases Nat.beq j i <;> rfl
  | ret=>rfl
 | cond c x y ihx ihy =>
  intro σ K
  cases c with
  | tmp t =>
   simp only [O4]
   split
   ·rename_i o p _
    cases p with
    | true=>exact ihx _ K
    | false=>exact ihy _ K
   ·exact hz
  | const v =>
   cases v with
   | bool p =>
    cases p with
    | true=>exact ihx _ K
    | false=>exact ihy _ K
   | _=>exact hz
  | _=>exact hz
 | loop x ih =>
  intro σ K
  simp only [O4]
  have key:∀ (m:Nat) (σ:St),h (b3A z (O4 P φ kp nt z n x) m σ K)=b3A z' (O4 P φ kp nt z' n x) m σ (fun e σ=>h (K e σ)):=by
   intro m
   induction m with
   | zero=>intro σ;exact hz
   | succ m ihm =>
    intro σ
    simp only [b3A]
    rw [ih]
    congr 1
    funext e σ
    cases e with
    | normal=>exact ihm σ
    | exit i=>rfl
    | ret=>rfl
  exact key n σ
 | region id ops draw =>
  intro σ K
  simp only [O4,c5B]
  rw [d0v h hz]
  congr 1
  funext σ Ls
  cases (!draw || (a6b ops.toList 0&&b1z (a5o ops.toList []) Ls)) with
  | true=>rfl
  | false=>exact hz
 | _=>intro σ K;exact hz
end
/-! ### results -/
def a9I (tmps:Array Value):ResultVar→Sem Value
 | .tmp t=>pure (tmps.getD t undef)
 | .cell a t=>do loadVar t (← asAddr (tmps.getD a undef))
theorem d9q {E a w} {σ:St} {G:GG} (h:Rel E σ a w G) {y:Nat} (hp:G (park y)=noG) {row rows:Row} {v:Value} {L σ' L'} (hrel:i7 E G σ.V w (fun _=>noG) row v)
  (hrun:((b1w row).bind fun row=>(a0a b4r row.2).bind fun cs=>.ret (row.1,cs)).run φ σ L=some (rows,σ',L')) :
  ∃ G',Rel E σ' a w G'∧(∀ E' G'' V',i7 E' G'' V' w (fun k q=>G' (park y) (0::k::q)) rows v)∧∀ z,z≠y→G' (park z)=G (park z):=by
 obtain ⟨d1Y,σ1,L1,h1,h2⟩:=run_bind hrun
 obtain ⟨G1,hG1,hr1,_,_,hpk⟩:=b5q h φ y hp hrel h1
 obtain ⟨cs,σ2,L2,h3,h4⟩:=run_bind h2
 obtain ⟨rfl,hl,hh⟩:=a9F h3
 have:=g7 h4
 simp only [Prod.mk.injEq] at this
 obtain ⟨rfl,rfl,_⟩:=this
 exact ⟨G1,hG1,b0W (ag:=d1Y.1) (l:=d1Y.2) hr1 hl hh,hpk⟩
theorem d0w {E a w} {σ:St} {G:GG} (h:Rel E σ a w G) {y:Nat} (hp:G (park y)=noG) {x:ResultVar} {rows:Row} {L σ' L'} (hrun:(c0B P x).run φ σ L=some (rows,σ',L')) :
  ∃ G' v,Rel E σ' a w G'∧(a9I a.tmps x).run P w=.ok v w∧(∀ E' G'' V',i7 E' G'' V' w (fun k q=>G' (park y) (0::k::q)) rows v)∧∀ z,z≠y→G' (park z)=G (park z):=by
 cases x with
 | tmp t =>
  obtain ⟨row,σ1,L1,h1,h2⟩:=run_bind hrun
  obtain ⟨rfl,hr⟩:=Q3 h h1
  obtain ⟨G',hG',hh,hpk⟩:=d9q h hp hr h2
  exact ⟨G',_,hG',rfl,hh,hpk⟩
 | cell t ty =>
  obtain ⟨c,σ1,L1,h1,h2⟩:=run_bind hrun
  obtain ⟨rfl,hc⟩:=o7 h h1
  split at h2
  ·rename_i pt
   obtain ⟨row,σ2,L2,h3,h4⟩:=run_bind h2
   obtain ⟨rfl,b,o,u,hv,hl,hr⟩:=c1d h hc h3
   obtain ⟨G',hG',hh,hpk⟩:=d9q h hp hr h4
   refine ⟨G',u,hG',?_,hh,hpk⟩
   have hv':a.tmps.getD t undef=.pointer (some ⟨b,o,none⟩):=hv
   simp [a9I,hv',asAddr,hl]
  ·exact (i5 h2).elim
theorem b7z {E a w}:∀ (l:List ResultVar) (i0:Nat) (σ:St) (G:GG),Rel E σ a w G→(∀ y,i0≤y→G (park y)=noG)→∀ {rows L σ' L'},(a0a (c0B P) l).run φ σ L=some (rows,σ',L') →
  ∃ G' vs,Rel E σ' a w G'∧rows.length=l.length∧vs.length=l.length∧(l.mapM (a9I a.tmps)).run P w=.ok vs w ∧
   (∀ (i:Nat) row,rows[i]?=some row→∃ u,vs[i]?=some u∧∀ E' G'' V',i7 E' G'' V' w (fun k q=>G' (park (i0+i)) (0::k::q)) row u)∧∀ y,y < i0→G' (park y)=G (park y)
 | [],i0,σ,G,h,_,rows,L,σ',L',hrun=>by
  have:=g7 (φ:=φ) hrun
  simp only [Prod.mk.injEq] at this
  obtain ⟨rfl,rfl,_⟩:=this
  exact ⟨G,[],h,rfl,rfl,by simp,fun i row hi=>by simp at hi,fun _ _=>rfl⟩
 | x::l,i0,σ,G,h,hp,rows,L,σ',L',hrun=>by
  obtain ⟨row,σ1,L1,h1,h2⟩:=run_bind (φ:=φ) (p:=c0B P x) hrun
  obtain ⟨G1,v,hG1,hv,hrel,hpk⟩:=d0w h (hp i0 (Nat.le_refl _)) h1
  obtain ⟨rows',σ2,L2,h3,h4⟩:=run_bind h2
  obtain ⟨G2,vs,hG2,hl,hl2,hm,hh,hpk2⟩:=b7z l (i0+1) σ1 G1 hG1 (fun y hy=>by rw [hpk y (by omega)];exact hp y (by omega)) h3
  have:=g7 h4
  simp only [Prod.mk.injEq] at this
  obtain ⟨rfl,rfl,_⟩:=this
  refine ⟨G2,v::vs,hG2,by simp [hl],by simp [hl2],by simp [hv,hm],fun i row' hi=>?_,fun y hy=>by rw [hpk2 y (by omega),hpk y (by omega)]⟩
  cases i with
  | zero =>
   simp at hi
   subst hi
   refine ⟨v,rfl,?_⟩
   rw [Nat.add_zero,hpk2 i0 (by omega)]
   exact hrel
  | succ i =>
   obtain ⟨u,hu,hr⟩:=hh i row' (by simpa using hi)
   refine ⟨u,by simpa using hu,?_⟩
   have e:i0+(i+1)=i0+1+i:=by omega
   rw [e]
   exact hr
theorem c1l {E a w} {σ:St} {G:GG} (h:Rel E σ a w G):∀ (ts:List Nat) (i0:Nat) {outs L σ' L'},(d7b E.nt i0 ts).run φ σ L=some (outs,σ',L')→outs.length=ts.length ∧
  ∀ (j:Nat) t,ts[j]?=some t→∃ o,outs[j]?=some o∧(t=1→U9 o.2∧∀ E' G' V',i7 E' G' V' w (fun k q=>G (ext (i0+j)) (0::k::q)) o (E.x (i0+j))) ∧
   (t=2→U9 o.2∧∃ b vs e,E.xb (E.nt+(i0+j))=some (⟨b,0,none⟩,1)∧G (box (E.nt+(i0+j))) []=some (⟨b,0,none⟩,1)∧w.heap[b]?=some (.cells vs e (0,0))∧∀ E' G' V',RelCs E' G' V' w (fun k q=>G (box (E.nt+(i0+j))) (0::k::q)) o.2 vs)
 | [],i0,outs,L,σ',L',hrun=>by
  have:=g7 (φ:=φ) hrun
  simp only [Prod.mk.injEq] at this
  obtain ⟨rfl,_,_⟩:=this
  exact ⟨rfl,fun j t hj=>by simp at hj⟩
 | t::ts,i0,outs,L,σ',L',hrun=>by
  obtain ⟨o,σ1,L1,h1,h2⟩:=run_bind (φ:=φ) (p:=e3w E.nt i0 t) hrun
  obtain ⟨outs1,σ2,L2,h3,h4⟩:=run_bind h2
  have:=g7 h4
  simp only [Prod.mk.injEq] at this
  obtain ⟨rfl,rfl,rfl⟩:=this
  have hfirst:σ1=σ∧(t=1→U9 o.2∧∀ E' G' V',i7 E' G' V' w (fun k q=>G (ext i0) (0::k::q)) o (E.x i0)) ∧
   (t=2→U9 o.2∧∃ b vs e,E.xb (E.nt+i0)=some (⟨b,0,none⟩,1)∧G (box (E.nt+i0)) []=some (⟨b,0,none⟩,1)∧w.heap[b]?=some (.cells vs e (0,0))∧∀ E' G' V',RelCs E' G' V' w (fun k q=>G (box (E.nt+i0)) (0::k::q)) o.2 vs):=by
   unfold e3w at h1
   cases e1:Nat.beq t 1 with
   | true =>
    have e1':=j8 e1
    rw [e1] at h1
    simp only [cond_true,O6] at h1
    split at h1
    ·rename_i row hrow
     have hx:=h.exts i0
     rw [hrow] at hx
     obtain ⟨rfl,_,hall,hrel⟩:=b8S (E:=E) (G:=G) (V:=fun r=>(σ.get r).ver) (g:=fun k q=>G (ext i0) (0::k::q)) hx h1
     exact ⟨rfl,fun _=>⟨hall,hrel⟩,fun e=>by omega⟩
    ·exact (i5 h1).elim
   | false =>
    have e1':t≠1:=fun e=>by rw [e,E5] at e1;cases e1
    rw [e1] at h1
    simp only [cond_false] at h1
    cases e2:Nat.beq t 2 with
    | true =>
     rw [e2] at h1
     simp only [cond_true,O6] at h1
     split at h1
     ·rename_i row hrow
      rcases h.box' (E.nt+i0) with h0 | ⟨row',b,vs,e,hrows,hg,hw,hc⟩
      ·rw [h0] at hrow;simp at hrow
      ·rw [hrow] at hrows
       simp only [List.cons.injEq,and_true] at hrows
       subst hrows
       obtain ⟨cs,σ3,L3,h5,h6⟩:=run_bind h1
       obtain ⟨rfl,hl,hall⟩:=a9F h5
       have:=g7 h6
       simp only [Prod.mk.injEq] at this
       obtain ⟨rfl,rfl,rfl⟩:=this
       have hr:i7 E G (fun r=>(σ1.get r).ver) w (fun k q=>G (box (E.nt+i0)) (0::k::q)) (true,row.2) (.agg vs):=⟨vs,rfl,hc⟩
       refine ⟨rfl,fun e=>absurd e e1',fun _=>⟨fun k c hk=>?_,b,vs,e,by rw [← h.xbox _ (by omega)];exact hg,hg,hw,fun E' G' V'=>?_⟩⟩
       ·obtain ⟨c0,t0,_,_,rfl⟩:=hall k c hk
        exact ⟨t0,rfl⟩
       ·obtain ⟨vs',e',hc'⟩:=b0W hr hl hall E' G' V'
        cases e'
        exact hc'
     ·exact (i5 h1).elim
    | false =>
     rw [e2] at h1
     have:=g7 (φ:=φ) h1
     simp only [Prod.mk.injEq] at this
     obtain ⟨_,rfl,_⟩:=this
     exact ⟨rfl,fun e=>absurd e e1',fun e=>by rw [e,E5] at e2;cases e2⟩
  obtain ⟨rfl,ha,hb⟩:=hfirst
  obtain ⟨hl,hh⟩:=c1l h ts (i0+1) h3
  refine ⟨by simp [hl],fun j t' hj=>?_⟩
  cases j with
  | zero =>
   simp only [List.getElem?_cons_zero,Option.some.injEq] at hj
   subst hj
   exact ⟨o,rfl,ha,hb⟩
  | succ j =>
   obtain ⟨o',h5,h6,h7⟩:=hh j t' (by simpa using hj)
   have e:i0+1+j=i0+(j+1):=by omega
   rw [e] at h6 h7
   exact ⟨o',by simpa using h5,h6,h7⟩
/-! ### a whole call -/
def d7r (G:GG):Gh
 | i::q=>G (park i) (0::q)
 | []=>none
theorem d9r {G:GG} {p y} (h:d7r G p=some y):∃ i q,p=i::q∧G (park i) (0::q)=some y:=by
 cases p with
 | nil=>simp [d7r] at h
 | cons i q=>exact ⟨i,q,rfl,h⟩
def a1O (args:List Arg) (i:Nat):Nat:=(args.getD i (0,(false,[]))).1
/-- The ghosts behind a call: the results', those of what is lent. -/
def c2y (G:GG) (nt:Nat) (args:List Arg):Nat→Gh
 | 0=>d7r G
 | i+1=>if a1O args i=1 then G (ext i) else if a1O args i=2 then G (box (nt+i)) else noG
theorem a8i {args:List Arg} {i x} (h:args[i]?=some x):a1O args i=x.1:=by
 unfold a1O
 rw [List.getD_eq_getElem?_getD,h]
 rfl
theorem b6N {fn:Func} {w0:World} {γ:Nat→Gh} {args:List Arg} {vals:Array Value} (hx:ArgsX w0 args vals γ) {σ:St} {a:Act} {w:World} {xb:Nat→Option (Addr × Nat)} (hxb:∀ i x,args[i]?=some x→x.1=2→xb (fn.ntmps+i)=γ i [])
  (hS:S ⟨w0,Dof γ,fn.ntmps,fun i=>vals.getD i undef,xb⟩ σ a w) {rs outs:List Row} (h:R4 P φ none fn (args.map (·.1)) σ (fun rows outs=>some (rows,outs))=some (rs,outs)) :
  a.defers=[]∧∃ v,(results fn a.tmps).run P w=.ok v w∧∃ v' δ,Ending.returned v=.returned v'∧GrewD w0 w (Dof γ)∧ResX w0 w γ args vals rs outs v' δ:=by
 unfold R4 at h
 have h':=cast (b8Y φ (fun o:Option (List Row × List Row)=>o=some (rs,outs)) none False (by simp) _ σ [] fun (r:List Row × List Row) _ _=>some (r.1,r.2)) h
 obtain ⟨rows,σ',L',hrun,hK⟩:=(c4e _ _ _ _ _).1 h'
 have hK:=Option.some.inj hK
 obtain ⟨a9x,σ1,L1,h1,h2⟩:=run_bind hrun
 obtain ⟨outs1,σ2,L2,h3,h4⟩:=run_bind h2
 have:=g7 h4
 simp only [Prod.mk.injEq] at this
 obtain ⟨rfl,_,_⟩:=this
 simp only [Prod.mk.injEq] at hK
 obtain ⟨rfl,rfl⟩:=hK
 obtain ⟨G,hG,hp⟩:=hS
 obtain ⟨G',vs,hG',hl,hl2,hm,hh,_⟩:=b7z fn.results.toList 0 σ G hG (fun y _=>hp y) h1
 obtain ⟨hlo,hout⟩:=c1l hG' (args.map (·.1)) 0 h3
 have hres:∀ E' G'' V',RelRows E' G'' V' w (d7r G') a9x (if h:vs.length=1 then vs[0]'(by omega) else .tuple vs.toArray):=fun E' G'' V'=>by
  match a9x,vs,hl,hl2,hh with
  | [],_,_,_,_=>trivial
  | [row],[v],_,_,hh =>
   obtain ⟨u,hu,hr⟩:=hh 0 row rfl
   simp at hu
   subst hu
   exact hr E' G'' V'
  | r::r'::rs,v::v'::vs,hl,hl2,hh =>
   refine ⟨(v::v'::vs).toArray,by simp,by simp at hl hl2 ⊢;omega,fun i row hi=>?_⟩
   obtain ⟨u,hu,hr⟩:=hh i row hi
   refine ⟨u,by simpa using hu,?_⟩
   have:=hr E' G'' V'
   rw [Nat.zero_add] at this
   exact this
  | [row],[],h1,h2,_=>simp at h1 h2;omega
  | [row],_::_::_,h1,h2,_=>simp at h1 h2;omega
  | _::_::_,[],h1,h2,_=>simp at h1 h2;omega
  | _::_::_,[_],h1,h2,_=>simp at h1 h2;omega
 have hend:∀ {i p y},c2y G' fn.ntmps args i p=some y→(i=0∧∃ j q,p=j::q∧G' (park j) (0::q)=some y)∨∃ j,i=j+1∧((a1O args j=1∧G' (ext j) p=some y)∨(a1O args j=2∧G' (box (fn.ntmps+j)) p=some y)):=by
  intro i p y he
  cases i with
  | zero=>exact .inl ⟨rfl,d9r he⟩
  | succ i =>
   simp only [c2y] at he
   split at he
   ·exact .inr ⟨i,rfl,.inl ⟨‹_›,he⟩⟩
   ·split at he
    ·exact .inr ⟨i,rfl,.inr ⟨‹_›,he⟩⟩
    ·simp [noG] at he
 refine ⟨hG.defers,_,?_,_,c2y G' fn.ntmps args,rfl,⟨hG'.os,hG'.tape,hG'.output,hG'.size,fun b hb hd=>hG'.kept b ⟨hb,hd⟩⟩,fun i p i' p' ad c ad' c' h1 h2 hb=>?_,fun i p ad c hg=>?_,hres,fun i x hi=>?_⟩
 ·have hmm:(fn.results.mapM (a9I a.tmps)).run P w=.ok vs.toArray w:=by
   rw [Array.mapM_eq_mapM_toList,Sem.run_map,hm]
   rfl
  have he:results fn a.tmps=(fn.results.mapM (a9I a.tmps) >>= fun vs=>pure (if h:vs.size=1 then vs[0] else .tuple vs)):=by
   unfold results
   congr 1
  rw [he,Sem.run_bind,hmm]
  simp only [Result.andThen_ok]
  by_cases h1:vs.length=1
  ·simp [h1]
  ·simp [h1]
 ·have inj:=hG'.inj
  rcases hend h1 with ⟨rfl,j,q,rfl,g1⟩ | ⟨j,rfl,⟨t1,g1⟩ | ⟨t1,g1⟩⟩ <;> rcases hend h2 with ⟨rfl,j',q',rfl,g2⟩ | ⟨j',rfl,⟨t2,g2⟩ | ⟨t2,g2⟩⟩ <;> obtain ⟨e1,e2⟩:=inj _ _ _ _ _ _ _ _ g1 g2 hb
  ·simp only [List.cons.injEq,true_and] at e2
   rw [O5 e1,e2]
   exact ⟨rfl,rfl⟩
  ·exact absurd e1.symm (b4t _ _)
  ·exact absurd e1.symm (a9q _ _)
  ·exact absurd e1 (b4t _ _)
  ·exact ⟨by rw [c0C e1],e2⟩
  ·exact absurd e1.symm (K2 _ _)
  ·exact absurd e1 (a9q _ _)
  ·exact absurd e1 (K2 _ _)
  ·have:=a6d e1
   exact ⟨by omega,e2⟩
 ·have hr:∀ {r q},G' r q=some (ad,c)→(w0.heap.size≤ad.block∨Dof γ ad.block)∧ad.block < w.heap.size:=fun hg=>hG'.rng _ _ _ _ hg
  rcases hend hg with ⟨rfl,j,q,rfl,g1⟩ | ⟨j,rfl,⟨t1,g1⟩ | ⟨t1,g1⟩⟩ <;> exact hr g1
 ·obtain ⟨u,hu,_⟩:=hx.arg i x hi
  obtain ⟨o,ho,k1,k2⟩:=hout i x.1 (by rw [List.getElem?_map,hi];rfl)
  have hv:vals.getD i undef=u:=by rw [Array.getD_eq_getD_getElem?,hu];rfl
  simp only [Nat.zero_add] at k1 k2
  refine ⟨o,u,ho,hu,?_⟩
  unfold OutOk
  have htag:=a8i hi
  split
  ·rename_i e
   obtain ⟨g1,g2⟩:=k1 e
   refine ⟨g1,fun E' G'' V'=>?_⟩
   have:=g2 E' G'' V'
   rw [hv] at this
   have e2:c2y G' fn.ntmps args (i+1)=G' (ext i):=by simp only [c2y,htag,e,if_true]
   rw [e2]
   exact this
  ·split
   ·rename_i e1 e
    obtain ⟨g1,b,vs',e',g2,g3,g4,g5⟩:=k2 e
    have e2:c2y G' fn.ntmps args (i+1)=G' (box (fn.ntmps+i)):=by simp only [c2y,htag,e];simp
    refine ⟨g1,b,vs',e',?_,by rw [e2];exact g3,g4,fun E' G'' V'=>by rw [e2];exact g5 E' G'' V'⟩
    obtain ⟨u',hu',hok⟩:=hx.arg i x hi
    rw [hu] at hu'
    obtain rfl:=Option.some.inj hu'
    unfold ArgOk at hok
    rw [if_neg (by omega),if_pos e] at hok
    obtain ⟨_,b1,vs1,e1',hp1,hg1,_⟩:=hok
    have:=(hxb i x hi e).symm.trans g2
    rw [hg1] at this
    simp only [Option.some.injEq,Prod.mk.injEq,Addr.mk.injEq,and_true] at this
    rw [← this]
    exact hp1
   ·trivial
end
end Go.Mach
namespace Go.Mach
section
variable {P:Program} {φ:Sems}
theorem c9C {α:Type} {t u:Nat} {x y:α}:(bif Nat.beq t u then x else y)=if t=u then x else y:=by
 by_cases e:t=u
 ·subst e;rw [E5,if_pos rfl];rfl
 ·rw [E4 e,if_neg e];rfl
theorem d9s (nt i:Nat) (x:Arg):b8A nt i x=if x.1=1 then (x.2.1,Z9 (fun k c=>D2 (ext i) z0 [0,k] c) 0 x.2.2) else if x.1=2 then (false,[.pt (.ptr (box (nt+i)) 0 [] x.2.2.length 0 0)]) else x.2:=by
 unfold b8A
 rw [c9C,c9C]
theorem c4i (nt i:Nat) (x:Arg) (σ:St):c5C nt i x σ=if x.1=1 then (ext i,⟨z0,[x.2]⟩)::σ else if x.1=2 then (box (nt+i),⟨z0,[x.2]⟩)::σ else σ:=by
 unfold c5C
 rw [c9C,c9C]
theorem c2z (r r':Nat) (c:Ct) (σ:St):St.get ((r,c)::σ) r'=if r=r' then c else St.get σ r':=by
 by_cases e:r=r'
 ·subst e;simp [St.get,E5]
 ·simp [St.get,E4 e,e]
theorem a9J (nt:Nat):∀ (args:List Arg) (i r:Nat),(B5 nt i args).get r=⟨z0,[]⟩∨∃ j x,args[j]?=some x∧((r=slot (i+j)∧(B5 nt i args).get r=⟨z0,[b8A nt (i+j) x]⟩) ∨
  (r=ext (i+j)∧x.1=1∧(B5 nt i args).get r=⟨z0,[x.2]⟩)∨(r=box (nt+(i+j))∧x.1=2∧(B5 nt i args).get r=⟨z0,[x.2]⟩))
 | [],i,r=>.inl rfl
 | x::l,i,r=>by
  have tail:(B5 nt (i+1) l).get r=⟨z0,[]⟩∨∃ j y,(x::l)[j]?=some y∧((r=slot (i+j)∧(B5 nt (i+1) l).get r=⟨z0,[b8A nt (i+j) y]⟩) ∨
    (r=ext (i+j)∧y.1=1∧(B5 nt (i+1) l).get r=⟨z0,[y.2]⟩)∨(r=box (nt+(i+j))∧y.1=2∧(B5 nt (i+1) l).get r=⟨z0,[y.2]⟩)):=by
   rcases a9J nt l (i+1) r with h | ⟨j,y,h1,h2⟩
   ·exact .inl h
   ·have e:i+1+j=i+(j+1):=by omega
    rw [e] at h2
    exact .inr ⟨j+1,y,by simpa using h1,h2⟩
  simp only [B5,c2z,c4i]
  by_cases e1:slot i=r
  ·rw [if_pos e1]
   exact .inr ⟨0,x,rfl,.inl ⟨e1.symm,rfl⟩⟩
  ·rw [if_neg e1]
   split
   ·rename_i ht
    rw [c2z]
    by_cases e2:ext i=r
    ·rw [if_pos e2]
     exact .inr ⟨0,x,rfl,.inr (.inl ⟨e2.symm,ht,rfl⟩)⟩
    ·rw [if_neg e2]
     exact tail
   ·split
    ·rename_i _ ht
     rw [c2z]
     by_cases e2:box (nt+i)=r
     ·rw [if_pos e2]
      exact .inr ⟨0,x,rfl,.inr (.inr ⟨e2.symm,ht,rfl⟩)⟩
     ·rw [if_neg e2]
      exact tail
    ·exact tail
theorem b6O (nt:Nat):∀ (args:List Arg) (i:Nat),((B5 nt i args).map (·.1)).Nodup∧∀ r,r∈(B5 nt i args).map (·.1)→∃ j,j < args.length∧(r=slot (i+j)∨r=ext (i+j)∨r=box (nt+(i+j)))
 | [],i=>⟨by simp [B5],fun r hr=>by simp [B5] at hr⟩
 | x::l,i=>by
  obtain ⟨h1,h2⟩:=b6O nt l (i+1)
  have h3:∀ r,r∈(B5 nt (i+1) l).map (·.1)→∃ j,j < (x::l).length∧j≠0∧(r=slot (i+j)∨r=ext (i+j)∨r=box (nt+(i+j))):=fun r hr=>by
   obtain ⟨j,hj,hh⟩:=h2 r hr
   have e:i+1+j=i+(j+1):=by omega
   rw [e] at hh
   exact ⟨j+1,by simp;omega,by omega,hh⟩
  have nslot:slot i ∉ (B5 nt (i+1) l).map (·.1):=fun hm=>by
   obtain ⟨j,_,hj,h | h | h⟩:=h3 _ hm
   ·have:=a5p h;omega
   ·exact J2 _ _ h
   ·exact A3 _ _ h
  have next:ext i ∉ (B5 nt (i+1) l).map (·.1):=fun hm=>by
   obtain ⟨j,_,hj,h | h | h⟩:=h3 _ hm
   ·exact J2 _ _ h.symm
   ·have:=c0C h;omega
   ·exact K2 _ _ h.symm
  have nbox:box (nt+i) ∉ (B5 nt (i+1) l).map (·.1):=fun hm=>by
   obtain ⟨j,_,hj,h | h | h⟩:=h3 _ hm
   ·exact A3 _ _ h.symm
   ·exact K2 _ _ h
   ·have:=a6d h;omega
  have tl:∀ r,r∈(B5 nt (i+1) l).map (·.1)→∃ j,j < (x::l).length∧(r=slot (i+j)∨r=ext (i+j)∨r=box (nt+(i+j))):=fun r hr=>by
   obtain ⟨j,hj,_,hh⟩:=h3 r hr
   exact ⟨j,hj,hh⟩
  simp only [B5,c4i]
  split
  ·simp only [List.map_cons,List.nodup_cons,List.mem_cons]
   refine ⟨⟨fun h=>h.elim (J2 _ _) nslot,next,h1⟩,fun r hr=>?_⟩
   rcases hr with rfl | rfl | hr
   ·exact ⟨0,by simp,.inl rfl⟩
   ·exact ⟨0,by simp,.inr (.inl rfl)⟩
   ·exact tl r hr
  ·split
   ·simp only [List.map_cons,List.nodup_cons,List.mem_cons]
    refine ⟨⟨fun h=>h.elim (A3 _ _) nslot,nbox,h1⟩,fun r hr=>?_⟩
    rcases hr with rfl | rfl | hr
    ·exact ⟨0,by simp,.inl rfl⟩
    ·exact ⟨0,by simp,.inr (.inr rfl)⟩
    ·exact tl r hr
   ·simp only [List.map_cons,List.nodup_cons,List.mem_cons]
    refine ⟨⟨nslot,h1⟩,fun r hr=>?_⟩
    rcases hr with rfl | hr
    ·exact ⟨0,by simp,.inl rfl⟩
    ·exact tl r hr
def I7 (nt:Nat) (args:List Arg) (γ:Nat→Gh):GG:=fun r =>
 if r % 4=2 then (if a1O args (r / 4)=1 then γ (r / 4) else noG)
 else if r % 4=0 then (if a1O args (r / 4)=3 then γ (r / 4) else noG)
 else if r % 4=1∧nt≤r / 4 then (if a1O args (r / 4 - nt)=2 then γ (r / 4 - nt) else noG) else noG
theorem c7Q {nt args γ i}:I7 nt args γ (ext i)=if a1O args i=1 then γ i else noG:=by
 have h1:ext i % 4=2:=by unfold ext;omega
 have h2:ext i / 4=i:=by unfold ext;omega
 unfold I7
 rw [if_pos h1,h2]
theorem b3M {nt args γ i}:I7 nt args γ (box (nt+i))=if a1O args i=2 then γ i else noG:=by
 have h0:¬ box (nt+i) % 4=2:=by unfold box;omega
 have h3:¬ box (nt+i) % 4=0:=by unfold box;omega
 have h1:box (nt+i) % 4=1∧nt≤box (nt+i) / 4:=by unfold box;omega
 have h2:box (nt+i) / 4 - nt=i:=by unfold box;omega
 unfold I7
 rw [if_neg h0,if_neg h3,if_pos h1,h2]
theorem b6P {nt args γ t}:I7 nt args γ (slot t)=if a1O args t=3 then γ t else noG:=by
 have h0:¬ slot t % 4=2:=by unfold slot;omega
 have h1:slot t % 4=0:=by unfold slot;omega
 have h2:slot t / 4=t:=by unfold slot;omega
 unfold I7
 rw [if_neg h0,if_pos h1,h2]
theorem d7s {nt args γ t}:I7 nt args γ (park t)=noG:=by
 have h0:¬ park t % 4=2:=by unfold park;omega
 have h3:¬ park t % 4=0:=by unfold park;omega
 have h1:¬ (park t % 4=1∧nt≤park t / 4):=by unfold park;omega
 unfold I7
 rw [if_neg h0,if_neg h3,if_neg h1]
theorem b6Q {nt args γ r p y} (h:I7 nt args γ r p=some y):∃ i,γ i p=some y∧((r=ext i∧a1O args i=1)∨(r=slot i∧a1O args i=3)∨(r=box (nt+i)∧a1O args i=2)):=by
 unfold I7 at h
 split at h
 ·rename_i h1
  split at h
  ·rename_i h2
   exact ⟨r / 4,h,.inl ⟨by unfold ext;omega,h2⟩⟩
  ·simp [noG] at h
 ·split at h
  ·rename_i h1
   split at h
   ·rename_i h2
    exact ⟨r / 4,h,.inr (.inl ⟨by unfold slot;omega,h2⟩)⟩
   ·simp [noG] at h
  ·split at h
   ·rename_i h1
    split at h
    ·rename_i h2
     exact ⟨r / 4 - nt,h,.inr (.inr ⟨by unfold box;omega,h2⟩)⟩
    ·simp [noG] at h
   ·simp [noG] at h
theorem S.init {nt:Nat} {args:List Arg} {w:World} {vals:Array Value} {γ:Nat→Gh} (hx:ArgsX w args vals γ) (hle:args.length≤nt) :
  S ⟨w,Dof γ,nt,fun i=>vals.getD i undef,fun t=>I7 nt args γ (box t) []⟩ (B5 nt 0 args) { tmps:=vals ++ Array.replicate (nt - vals.size) undef,defers:=[] } w:=by
 have hV:∀ r,((B5 nt 0 args).get r).ver=z0:=fun r=>by
  rcases a9J nt args 0 r with h | ⟨j,x,_,⟨_,h⟩ | ⟨_,_,h⟩ | ⟨_,_,h⟩⟩ <;> rw [h]
 have hV':(fun r=>((B5 nt 0 args).get r).ver)=fun _=>z0:=funext hV
 have htmp:∀ (j:Nat) u,vals[j]?=some u→(vals ++ Array.replicate (nt - vals.size) undef).getD j undef=u:=fun j u hu=>by
  have hlt:j < vals.size:=(Array.getElem?_eq_some_iff.1 hu).1
  rw [Array.getD_eq_getD_getElem?,Array.getElem?_append_left hlt,hu]
  rfl
 have hval:∀ (j:Nat) u,vals[j]?=some u→vals.getD j undef=u:=fun j u hu=>by rw [Array.getD_eq_getD_getElem?,hu];rfl
 refine ⟨I7 nt args γ,⟨(b6O nt args 0).1,fun r p r' p' ad c ad' c' h1 h2 hb=>?_,fun r p ad c h1=>?_,rfl,rfl,rfl,Nat.le_refl _,fun _ _=>rfl,fun t=>?_,fun t=>?_,fun t=>?_,fun t ht=>rfl,rfl,?_,fun t ht=>?_⟩,fun y=>d7s⟩
 ·obtain ⟨i,g1,k1⟩:=b6Q h1
  obtain ⟨i',g2,k2⟩:=b6Q h2
  obtain ⟨rfl,rfl⟩:=hx.inj _ _ _ _ _ _ _ _ g1 g2 hb
  rcases k1 with ⟨rfl,t1⟩ | ⟨rfl,t1⟩ | ⟨rfl,t1⟩ <;> rcases k2 with ⟨rfl,t2⟩ | ⟨rfl,t2⟩ | ⟨rfl,t2⟩
  all_goals first | exact ⟨rfl,rfl⟩ | omega
 ·obtain ⟨i,g1,_⟩:=b6Q h1
  exact ⟨.inr ⟨i,p,ad,c,g1,rfl⟩,hx.rng _ _ _ _ g1⟩
 ·rw [hV']
  rcases a9J nt args 0 (slot t) with h | ⟨j,x,hj,⟨h1,h⟩ | ⟨h1,_,h⟩ | ⟨h1,_,h⟩⟩
  ·rw [h];trivial
  ·rw [h]
   have:=a5p h1
   rw [Nat.zero_add] at this ⊢
   subst this
   obtain ⟨u,hu,hok⟩:=hx.arg t x hj
   simp only
   rw [htmp t u hu,d9s]
   have htag:=a8i hj
   unfold ArgOk at hok
   split
   ·rename_i ht
    rw [if_pos (.inl ht)] at hok
    have hr:=hok.2 ⟨w,Dof γ,nt,fun i=>vals.getD i undef,fun t=>I7 nt args γ (box t) []⟩ (I7 nt args γ) fun _=>z0
    have hG:I7 nt args γ (ext t)=γ t:=by rw [c7Q,htag,if_pos ht]
    have hG2:I7 nt args γ (slot t)=noG:=by rw [b6P,htag,if_neg (by omega)]
    rw [← hG] at hr
    rw [hG2]
    exact i7.view (r:=ext t) (i:=0) (b1C t) hr
   ·rename_i ht
    split
    ·rename_i ht2
     rw [if_neg (by omega),if_pos ht2] at hok
     obtain ⟨_,b,vs,e,rfl,hg,_⟩:=hok
     refine ⟨b,0,rfl,⟨J1 _,fun _=>by unfold box;omega⟩,Nat.le_refl _,fun _=>⟨0,1,?_,by simp⟩⟩
     rw [b3M,htag,if_pos ht2]
     exact hg
    ·rename_i ht2
     by_cases h3:x.1=3
     ·rw [if_pos (.inr h3)] at hok
      rw [b6P,htag,if_pos h3]
      exact hok.2 _ _ _
     rw [b6P,htag,if_neg h3]
     rw [if_neg (by omega),if_neg ht2] at hok
     have key:∀ {row:Row} {v:Value} {g:Nat→Gh} {G V},i7 (A4 w (Dof γ)) G V w g row v→i7 ⟨w,Dof γ,nt,fun i=>vals.getD i undef,fun t=>I7 nt args γ (box t) []⟩ G V w g row v:=by
      intro row v g G V hr
      have kc:∀ {c:C} {v:Value} {g:Gh},l4 (A4 w (Dof γ)) G V w g c v→l4 ⟨w,Dof γ,nt,fun i=>vals.getD i undef,fun t=>I7 nt args γ (box t) []⟩ G V w g c v:=by
       intro c v g hc
       cases c with
       | tr o t=>cases o <;> exact hc
       | ref r ver p m s n=>exact hc
       | pt x=>cases x <;> exact hc
       | fn f caps =>
        obtain ⟨vs,e,hs,hh⟩:=hc
        refine ⟨vs,e,hs,fun i x hi=>?_⟩
        obtain ⟨u,hu,hp⟩:=hh i x hi
        refine ⟨u,hu,?_⟩
        cases x <;> exact hp
       | dead=>exact hc
      obtain ⟨ag,cs⟩:=row
      cases ag with
      | true =>
       obtain ⟨vs,e,hc⟩:=hr
       exact ⟨vs,e,hc.1,fun k c hk=>let ⟨u,hu,h1⟩:=hc.2 k c hk;⟨u,hu,kc h1⟩⟩
      | false=>match cs,hr with
       | [],hr=>exact hr
       | [c],hr=>exact kc hr
     exact key (hok (I7 nt args γ) fun _=>z0)
  ·exact absurd h1 (J2 _ _)
  ·exact absurd h1 (A3 _ _)
 ·rw [hV']
  rcases a9J nt args 0 (box t) with h | ⟨j,x,hj,⟨h1,h⟩ | ⟨h1,_,h⟩ | ⟨h1,ht,h⟩⟩
  ·exact .inl (by rw [h])
  ·exact absurd h1.symm (A3 _ _)
  ·exact absurd h1 (K2 _ _)
  ·rw [h]
   have:=a6d h1
   rw [Nat.zero_add] at this
   subst this
   obtain ⟨u,hu,hok⟩:=hx.arg j x hj
   unfold ArgOk at hok
   rw [if_neg (by omega),if_pos ht] at hok
   obtain ⟨_,b,vs,e,_,hg,hw,hc⟩:=hok
   have hG:I7 nt args γ (box (nt+j))=γ j:=by rw [b3M,a8i hj,if_pos ht]
   refine .inr ⟨x.2,b,vs,e,rfl,by rw [hG];exact hg,hw,?_⟩
   rw [hG]
   exact hc _ _ _
 ·rw [hV']
  rcases a9J nt args 0 (ext t) with h | ⟨j,x,hj,⟨h1,h⟩ | ⟨h1,ht,h⟩ | ⟨h1,_,h⟩⟩
  ·rw [h];trivial
  ·exact absurd h1.symm (J2 _ _)
  ·rw [h]
   have:=c0C h1
   rw [Nat.zero_add] at this
   subst this
   obtain ⟨u,hu,hok⟩:=hx.arg t x hj
   unfold ArgOk at hok
   rw [if_pos (.inl ht)] at hok
   simp only
   rw [hval t u hu,c7Q,a8i hj,if_pos ht]
   exact hok.2 _ _ _
  ·exact absurd h1.symm (K2 _ _)
 ·have:=hx.size
  simp
  omega
 ·rw [R5] at ht
  obtain ⟨j,hj,h | h | h⟩:=(b6O nt args 0).2 _ ht
  ·have:=a5p h;simp only;omega
  ·exact absurd h (J2 _ _)
  ·exact absurd h (A3 _ _)
theorem b9 (hφ:V0 P φ) (hm:P.follows .mixedOrders=true) {kp:List (Nat × List Nat)} {n:Nat} {f:FuncId} {fn:Func} (hf:P.funcs[f]?=some fn) {c:Code} (hc:fn.body=some c) {args:List Arg} {rs outs:List Row} (h:body P φ kp n fn args=some (rs,outs))
  (hN : fn.name ≠ "runtime.NumGoroutine") : a1N P f args rs outs := by
 refine ⟨⟨fn,hf,by rw [hc];rfl,hN⟩,fun w vals γ hargs=>?_⟩
 unfold body at h
 cases hb:(Nat.beq args.length (fn.params.size+fn.nfree)&&Nat.ble args.length fn.ntmps) with
 | false=>rw [hb] at h;cases h
 | true =>
  rw [hb] at h
  simp only [cond_true] at h
  simp only [Bool.and_eq_true,Nat.ble_eq] at hb
  have hbody:d3 fn=c:=by unfold d3;rw [hc]
  rw [hbody] at h
  have h':=cast (c2x (P:=P) (φ:=φ) (fun o:Option (List Row × List Row)=>o=some (rs,outs)) (z:=none) (z':=False) (by simp) (a8d kp) fn.ntmps n c (B5 fn.ntmps 0 args) fun e σ=>match e with
   | .exit _=>none
   | _=>R4 P φ none fn (args.map (·.1)) σ fun rows outs=>some (rows,outs)) h
  have hxb:∀ i x,args[i]?=some x→x.1=2→(fun t=>I7 fn.ntmps args γ (box t) []) (fn.ntmps+i)=γ i []:=fun i x hi ht=>by
   simp only
   rw [b3M,a8i hi,if_pos ht]
  refine calls_of_wp hf hc (c4h hm (E:=⟨w,Dof γ,fn.ntmps,fun i=>vals.getD i undef,fun t=>I7 fn.ntmps args γ (box t) []⟩) hφ c _ _ _ _ _ h' (S.init hargs hb.2) fun e σ' a' w' hK hS=>?_)
  cases e with
  | exit i=>cases hK
  | normal=>exact b6N hargs hxb hS hK
  | ret=>exact b6N hargs hxb hS hK
end
end Go.Mach
