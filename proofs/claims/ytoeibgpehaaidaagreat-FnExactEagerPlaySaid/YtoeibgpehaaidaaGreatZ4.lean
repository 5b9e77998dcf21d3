/- Lemmas and definitions of the proof (Fm Mr Ro Ga Ha Hk Rx Ry Rz Ca Bm Bi Ia Id Cn). Conditions: none. -/
import Derived.WalkKit
import Derived.ProofKit
import Derived.OpenShut
import Derived.ShutString
import Derived.ChangeOld
import Derived.Below
import Derived.SizedLaws
import Derived.Lib.Overlaps
import Derived.Lib.AppendZerosOnto
import Derived.Shelf.RegionOpenPlain
import Derived.Test.YtoeibgpehaaidaaGreatProg
import Derived.Test.YtoeibgpehaaidaaGreatZ3
set_option linter.all false
namespace Go.Mach.F
open Go Go.Mach Go.Proofs.Tryz Go.IntKind
--=set_option maxRecDepth 100000
theorem d5x (a b:Int):(a==b)=decide (a=b):=by by_cases h:a=b <;> simp [h]
def A5 (x:Rm) (k:Int):Rm:=⟨⟨(k),(k+1)⟩,⟨(k+1+1),(k+1+1+1)⟩,(V2 x.kids (k+1+1+1+1)),(k+1+1+1+1+cntL l8 x.kids),(k+1+1+1+1+cntL l8 x.kids+1),(decide (Int.tmod (k+1+1+1+1+cntL l8 x.kids+1+1) 3=0)),(k+1+1+1+1+cntL l8 x.kids+1+1+1),(R2 x.things (k+1+1+1+1+cntL l8 x.kids+1+1+1+1)),(P2 x.tags (k+1+1+1+1+cntL l8 x.kids+1+1+1+1+cntL m9 x.things))⟩
def m3 (x:Rm):Nat:=1+1+1+1+cntL l8 x.kids+1+1+1+1+cntL m9 x.things+cntL p7 x.tags
def I0 (x:List Rm × Int):Prop:=u6 x.1∧0≤x.2∧x.2+cntL m3 x.1≤BM
def a2o (x:List Rm × Int):List Arg:=[aT (eL 11 Rm.cs x.1),aI x.2]
def a1i (x:List Rm × Int):List Arg:=[lT (eL 11 Rm.cs x.1),aI x.2]
def J4 (l:List Rm) (k:Int):List Rm:=H8 A5 m3 l k
def b1m (x:List Rm × Int):Int:=if x.1=J4 x.1 x.2 then x.2+cntL m3 x.1 else -1
def G7 (x:List Rm × Int):List Rm:=J4 x.1 x.2
def b1n (x:List Rm × Int):Int:=x.2+cntL m3 x.1
noncomputable def d5y:Ent:=ent [] I0 a2o (erI 2) b1m
noncomputable def d5z:Ent:=ent [1] I0 a1i (fun x=>([oT (.int .i64 (b1n x))],[oT (eL 11 Rm.cs (G7 x)),nul])) fun x=>x
theorem c1v (x y:List Rm × Int) (h:a2o x=a2o y):x=y:=by
 simp only [a2o,aI,aT,List.cons.injEq,Prod.mk.injEq,true_and,and_true,C.tr.injEq,T.int.injEq] at h
 exact Prod.ext (m8 Rm.cs_inj h.1) h.2
theorem c1w (x y:List Rm × Int) (h:a1i x=a1i y):x=y:=by
 simp only [a1i,lT,aI,aT,List.cons.injEq,Prod.mk.injEq,true_and,and_true,C.tr.injEq,T.int.injEq] at h
 exact Prod.ext (m8 Rm.cs_inj h.1) h.2
def d5A:Nat:=49
noncomputable abbrev a6D:Func:=f49
def a3m:List (Nat × List Nat):=[(0,[0,4]),(1,[0,4,20]),(2,[0,4,20,36]),(3,[0,4,20]),(4,[0,4,20,76]),(5,[16]),(6,[0,4,20]),(7,[0,4,20,116]),(8,[16]),(9,[0,4,20]),(10,[0,4,20,156]),(11,[16]),(12,[0,4,20]),(13,[0,4,20,196]),(14,[16]),(15,[0,4,20]),(16,[0,4,20]),(17,[0,4,20,240]),(18,[16]),(19,[0,4,20,268]),(20,[16]),(21,[0,4,20]),(22,[0,4,20,304]),(23,[16]),(24,[0,4,20]),(25,[0,4,20,348]),(26,[16]),(27,[0,4,20]),(28,[0,4,20,384]),(29,[16]),(30,[0,4,20]),(31,[0,4,20]),(32,[0,4,20,428]),(33,[16]),(34,[0,4,20]),(35,[0,4,20,464]),(36,[16]),(37,[16])]
def c2H:List Nat:=[0,0]
def a4h (l:List Rm) (k:Int) (x4:Int) (x20:Int):St:=[(0,⟨z0,[(false,[.tr false (eL 11 Rm.cs l)])]⟩),vi 1 x4,vi 5 x20]
def C6 (l:List Rm) (k:Int) (x4:Int) (x20:Int):St:=[vi 4 (-1)]
def b2d (l:List Rm) (k:Int) (x4:Int) (x20:Int):St:=[(0,⟨z0,[(false,[.tr false (eL 11 Rm.cs l)])]⟩),vi 1 x4,vi 5 x20,ve 36]
noncomputable abbrev tb1:Sems:=b3 [(d4Y,d4W),(d5k,d5i),(d0J,d0F)]
theorem b7M (l:List Rm) (k:Int) (x4:Int) (x20:Int) (n:Nat) (K:Ex→St→Res):i8 prog tb1 a3m a6D [1,0,1,0] n (a4h l k x4 x20) K=(bif decide (x20 < (↑l.length:Int)) then gd (decide (0≤x20)&&(x20.toNat.blt l.length&&true))<|gd (T.isI i64 (atL Rm.cs l x20.toNat (0+0)))<|bif (atL Rm.cs l x20.toNat (0+0)).toI != x4 then K .ret (C6 l k x4 x20) else gd (decide (0≤x20)&&(x20.toNat.blt l.length&&true))<|gd (T.isI i64 (atL Rm.cs l x20.toNat (0+1)))<|bif (atL Rm.cs l x20.toNat (0+1)).toI != i64.wrap (x4+1) then K .ret (C6 l k x4 x20) else gd (decide (0≤x20)&&(x20.toNat.blt l.length&&true))<|gd (T.isI i64 (atL Rm.cs l x20.toNat (2+0)))<|bif (atL Rm.cs l x20.toNat (2+0)).toI != i64.wrap (i64.wrap (x4+1)+1) then K .ret (C6 l k x4 x20) else gd (decide (0≤x20)&&(x20.toNat.blt l.length&&true))<|gd (T.isI i64 (atL Rm.cs l x20.toNat (2+1)))<|bif (atL Rm.cs l x20.toNat (2+1)).toI != i64.wrap (i64.wrap (i64.wrap (x4+1)+1)+1) then K .ret (C6 l k x4 x20) else gd (decide (0≤x20)&&(x20.toNat.blt l.length&&true))<|gd ((atL Rm.cs l x20.toNat 4).isArr&&(atL Rm.cs l x20.toNat 4).wd.beq 2)<|d7 P9 a2k (b1k) [(0,false,[C.tr false (T.arr 2 (atL Rm.cs l x20.toNat 4).ln (atL Rm.cs l x20.toNat 4).fn)]),(0,false,[C.tr false (T.int i64 (i64.wrap (i64.wrap (i64.wrap (i64.wrap (x4+1)+1)+1)+1)))])] fun (r1:Int)=>bif decide (r1 < 0) then K .ret (C6 l k x4 x20) else gd (decide (0≤x20)&&(x20.toNat.blt l.length&&true))<|gd (T.isI i64 (atL Rm.cs l x20.toNat 5))<|bif (atL Rm.cs l x20.toNat 5).toI != r1 then K .ret (C6 l k x4 x20) else gd (decide (0≤x20)&&(x20.toNat.blt l.length&&true))<|gd (T.isI i64 (atL Rm.cs l x20.toNat 6))<|bif (atL Rm.cs l x20.toNat 6).toI != i64.wrap (r1+1) then K .ret (C6 l k x4 x20) else gd (decide (0≤x20)&&(x20.toNat.blt l.length&&true))<|gd ((atL Rm.cs l x20.toNat 7).isB)<|bif !(atL Rm.cs l x20.toNat 7).toB==((i64.wrap (i64.wrap (r1+1)+1)).tmod 3==0) then K .ret (C6 l k x4 x20) else gd (decide (0≤x20)&&(x20.toNat.blt l.length&&true))<|gd (T.isI i64 (atL Rm.cs l x20.toNat 8))<|bif (atL Rm.cs l x20.toNat 8).toI != i64.wrap (i64.wrap (i64.wrap (r1+1)+1)+1) then K .ret (C6 l k x4 x20) else gd (decide (0≤x20)&&(x20.toNat.blt l.length&&true))<|gd ((atL Rm.cs l x20.toNat 9).isArr&&(atL Rm.cs l x20.toNat 9).wd.beq 1)<|d7 Q0 a2m (b1l) [(0,false,[C.tr false (T.arr 1 (atL Rm.cs l x20.toNat 9).ln (atL Rm.cs l x20.toNat 9).fn)]),(0,false,[C.tr false (T.int i64 (i64.wrap (i64.wrap (i64.wrap (i64.wrap (r1+1)+1)+1)+1)))])] fun (r2:Int)=>bif decide (r2 < 0) then K .ret (C6 l k x4 x20) else gd (decide (0≤x20)&&(x20.toNat.blt l.length&&true))<|gd ((atL Rm.cs l x20.toNat 10).isArr&&(atL Rm.cs l x20.toNat 10).wd.beq 1)<|d7 H0 a3e (b1I) [(0,false,[C.tr false (T.arr 1 (atL Rm.cs l x20.toNat 10).ln (atL Rm.cs l x20.toNat 10).fn)]),(0,false,[C.tr false (T.int i64 r2)])] fun (r3:Int)=>bif decide (r3 < 0) then K .ret (C6 l k x4 x20) else K .normal (a4h l k r3 (i64.wrap (x20+1))) else K (.exit 0) (b2d l k x4 x20)):=by kernel_rfl
theorem c6r (l:List Rm) (k:Int) (x4:Int) (x20:Int) (n:Nat):d5 prog tb1 a3m a6D c2H [1,0,1,0] [] n .ret (C6 l k x4 x20)=(some ([(false,[.tr true (T.int i64 (-1))])],(nu 2))):=by kernel_rfl
theorem c6s (l:List Rm) (k:Int) (x4:Int) (x20:Int) (n:Nat):d5 prog tb1 a3m a6D c2H [1,0,1,0] [] n (.exit 0) (b2d l k x4 x20)=(some ([(false,[.tr true (T.int i64 x4)])],(nu 2))):=by kernel_rfl
theorem e0o (l:List Rm) (k:Int) (n:Nat):body prog tb1 a3m n a6D [aT (eL 11 Rm.cs l),aI k]=(j5 prog tb1 a3m a6D [1,0,1,0] n n (a4h l k (k) (0)) (d5 prog tb1 a3m a6D c2H [1,0,1,0] [] n)):=by kernel_rfl
theorem d7J (l:List Rm) (k:Int) (h:I0 (l,k)):body prog tb1 a3m (l.length+1) a6D (a2o (l,k))=some (erI 2 (b1m (l,k))):=by
 obtain ⟨hl,hk0,hk1⟩:=h
 have hbm:=bm
 dsimp only at hl hk0 hk1
 have hl':l.length≤BM:=hl.1
 unfold a2o b1m
 dsimp only
 rw [e0o]
 have hst:a4h l k k 0=(fun i:Nat=>a4h l k (k+cntL m3 (l.take i)) (i:Nat)) 0:=by simp [cntL]
 rw [hst,c4j A5 m3 l k (fun i:Nat=>a4h l k (k+cntL m3 (l.take i)) (i:Nat)) (fun i:Nat=>C6 l k (k+cntL m3 (l.take i)) (i:Nat)) (b2d l k (k+cntL m3 l) l.length) (fun i x K hx=>?_) (fun K=>?_) (fun i=>c6r l k _ _ _) (c6s l k _ _ _) _ (Nat.le_refl _)]
 ·unfold J4
  split <;> rfl
 ·have hi:=(List.getElem?_eq_some_iff.1 hx).1
  have hxm:x∈l:=List.mem_of_getElem? hx
  have hc:=C1 m3 l hx
  have hcl:=T6 m3 l (i+1)
  have hcx:m3 x=1+1+1+1+cntL l8 x.kids+1+1+1+1+cntL m9 x.things+cntL p7 x.tags:=rfl
  have h0:=(hl.2 _ hxm).1
  have h1:=(hl.2 _ hxm).2.1
  have h2:=(hl.2 _ hxm).2.2
  rw [hc,b7M]
  obtain ⟨k0,hk⟩:∃ k0,k0=k+(cntL m3 (l.take i):Int):=⟨_,rfl⟩
  have hk2:k+((cntL m3 (l.take i)+m3 x:Nat):Int)=k0+1+1+1+1+cntL l8 x.kids+1+1+1+1+cntL m9 x.things+cntL p7 x.tags:=by omega
  rw [hk2,← hk]
  have g0:P9 (x.kids,k0+1+1+1+1):=⟨h0,by dsimp only;omega,by dsimp only;omega⟩
  have g1:Q0 (x.things,k0+1+1+1+1+cntL l8 x.kids+1+1+1+1):=⟨h1,by dsimp only;omega,by dsimp only;omega⟩
  have g2:H0 (x.tags,k0+1+1+1+1+cntL l8 x.kids+1+1+1+1+cntL m9 x.things):=⟨h2,by dsimp only;omega,by dsimp only;omega⟩
  simp (disch:=omega) only [f4,hi,d6 hx,Rm.cs,w7,a3Q,d5x,a8j,v8,o3]
  by_cases e0:x.h.slot=k0
  case neg =>
   rw [decide_eq_false e0,decide_eq_false (show ¬ x=A5 x k0 from fun e=>e0 (congrArg (fun z:Rm=>z.h.slot) e))]
   rfl
  rw [decide_eq_true e0]
  simp (disch:=omega) only [Bool.not_true,cond_false,v8]
  by_cases e1:x.h.gen=k0+1
  case neg =>
   rw [decide_eq_false e1,decide_eq_false (show ¬ x=A5 x k0 from fun e=>e1 (congrArg (fun z:Rm=>z.h.gen) e))]
   rfl
  rw [decide_eq_true e1]
  simp (disch:=omega) only [Bool.not_true,cond_false,v8]
  by_cases e2:x.up.slot=k0+1+1
  case neg =>
   rw [decide_eq_false e2,decide_eq_false (show ¬ x=A5 x k0 from fun e=>e2 (congrArg (fun z:Rm=>z.up.slot) e))]
   rfl
  rw [decide_eq_true e2]
  simp (disch:=omega) only [Bool.not_true,cond_false,v8]
  by_cases e3:x.up.gen=k0+1+1+1
  case neg =>
   rw [decide_eq_false e3,decide_eq_false (show ¬ x=A5 x k0 from fun e=>e3 (congrArg (fun z:Rm=>z.up.gen) e))]
   rfl
  rw [decide_eq_true e3]
  simp (disch:=omega) only [Bool.not_true,cond_false,v8]
  simp only [b4 (e4k g0) (e4l g0),gdt]
  by_cases e4:x.kids=V2 x.kids (k0+1+1+1+1)
  case neg =>
   simp only [e8e e4]
   rw [decide_eq_false (show ¬ x=A5 x k0 from fun e=>e4 (congrArg (fun z:Rm=>z.kids) e))]
   rfl
  simp only [e8d e4]
  rw [decide_eq_false (show ¬ k0+1+1+1+1+(cntL l8 x.kids:Int) < 0 by omega)]
  simp (disch:=omega) only [cond_false,v8]
  by_cases e5:x.ep=k0+1+1+1+1+cntL l8 x.kids
  case neg =>
   rw [decide_eq_false e5,decide_eq_false (show ¬ x=A5 x k0 from fun e=>e5 (congrArg (fun z:Rm=>z.ep) e))]
   rfl
  rw [decide_eq_true e5]
  simp (disch:=omega) only [Bool.not_true,cond_false,v8]
  by_cases e6:x.chunks=k0+1+1+1+1+cntL l8 x.kids+1
  case neg =>
   rw [decide_eq_false e6,decide_eq_false (show ¬ x=A5 x k0 from fun e=>e6 (congrArg (fun z:Rm=>z.chunks) e))]
   rfl
  rw [decide_eq_true e6]
  simp (disch:=omega) only [Bool.not_true,cond_false,v8]
  by_cases e7:x.cur=decide (Int.tmod (k0+1+1+1+1+cntL l8 x.kids+1+1) 3=0)
  case neg =>
   rw [decide_eq_false e7,decide_eq_false (show ¬ x=A5 x k0 from fun e=>e7 (congrArg (fun z:Rm=>z.cur) e))]
   rfl
  rw [decide_eq_true e7]
  simp (disch:=omega) only [Bool.not_true,cond_false,v8]
  by_cases e8:x.bump=k0+1+1+1+1+cntL l8 x.kids+1+1+1
  case neg =>
   rw [decide_eq_false e8,decide_eq_false (show ¬ x=A5 x k0 from fun e=>e8 (congrArg (fun z:Rm=>z.bump) e))]
   rfl
  rw [decide_eq_true e8]
  simp (disch:=omega) only [Bool.not_true,cond_false,v8]
  simp only [b4 (e4t g1) (e4u g1),gdt]
  by_cases e9:x.things=R2 x.things (k0+1+1+1+1+cntL l8 x.kids+1+1+1+1)
  case neg =>
   simp only [e8r e9]
   rw [decide_eq_false (show ¬ x=A5 x k0 from fun e=>e9 (congrArg (fun z:Rm=>z.things) e))]
   rfl
  simp only [e8q e9]
  rw [decide_eq_false (show ¬ k0+1+1+1+1+cntL l8 x.kids+1+1+1+1+(cntL m9 x.things:Int) < 0 by omega)]
  simp (disch:=omega) only [cond_false,v8]
  simp only [b4 (d4Q g2) (d4R g2),gdt]
  by_cases e10:x.tags=P2 x.tags (k0+1+1+1+1+cntL l8 x.kids+1+1+1+1+cntL m9 x.things)
  case neg =>
   simp only [d9P e10]
   rw [decide_eq_false (show ¬ x=A5 x k0 from fun e=>e10 (congrArg (fun z:Rm=>z.tags) e))]
   rfl
  simp only [d9O e10]
  rw [decide_eq_false (show ¬ k0+1+1+1+1+cntL l8 x.kids+1+1+1+1+cntL m9 x.things+(cntL p7 x.tags:Int) < 0 by omega)]
  simp (disch:=omega) only [cond_false,v8]
  have hm:x=A5 x k0:=by
   rcases x with ⟨⟨x0,x1⟩,⟨x2,x3⟩,x4,x5,x6,x7,x8,x9,x10⟩
   simp only [A5,Rm.mk.injEq,Hd.mk.injEq]
   exact ⟨⟨e0,e1⟩,⟨e2,e3⟩,e4,e5,e6,e7,e8,e9,e10⟩
  rw [decide_eq_true hm]
  simp only [Bool.not_true,cond_false]
  congr 2
 ·rw [b7M]
  simp only [p8,Nat.lt_irrefl,decide_false,cond_false,List.take_length]
theorem e8H:d8 prog d5A d5y:=g8 c1v fun x hx =>
 b9 (φ:=tb1) (a9 e8b (a9 e8o (a9 d9D b5))) d9 (kp:=a3m) (n:=x.1.length+1) func49 (c:=d3 a6D) (by kernel_rfl) (d7J x.1 x.2 hx) (b8 (by kernel_rfl))
def d5B:Nat:=46
noncomputable abbrev a8E:Func:=f46
def a5B:List (Nat × List Nat):=[(0,[0,4,2]),(1,[0,4,20,2]),(2,[0,4,20,36,2]),(3,[0,4,20,2]),(4,[0,4,20,2]),(5,[0,4,20,2]),(6,[0,4,20,2]),(7,[0,4,20,2]),(8,[0,4,20,2]),(9,[0,4,20,2]),(10,[0,4,20,2]),(11,[0,4,20,2]),(12,[0,4,20,2]),(13,[0,4,20,2]),(14,[0,4,20,2]),(15,[0,4,20,2]),(16,[0,4,20,2]),(17,[0,4,20,2]),(18,[0,4,20,2]),(19,[0,4,20,2]),(20,[0,4,20,2]),(21,[0,4,20,2]),(22,[0,4,20,2]),(23,[16,2])]
def d1k:List Nat:=[1,0]
def a4i (l:List Rm) (k:Int) (x4:Int) (x20:Int) (nx2:Nat) (fx2:Nat→Nat→T):St:=[vr 0 2 0 [0,0] 11 0 l.length,vi 1 x4,vi 5 x20,(2,⟨z0,[(false,[ca (11) (nx2) (fx2)])]⟩)]
def b2e (l:List Rm) (k:Int) (x4:Int) (x20:Int) (nx2:Nat) (fx2:Nat→Nat→T):St:=[vr 0 2 0 [0,0] 11 0 l.length,vi 1 x4,vi 5 x20,ve 36,(2,⟨z0,[(false,[ca (11) (nx2) (fx2)])]⟩)]
noncomputable abbrev tb2:Sems:=b3 [(d4Z,d4X),(d5l,d5j),(d0K,d0G)]
theorem b7N (l:List Rm) (k:Int) (x4:Int) (x20:Int) (nx2:Nat) (fx2:Nat→Nat→T) (n:Nat) (K:Ex→St→Res):i8 prog tb2 a5B a8E [1,0,1,0] n (a4i l k x4 x20 nx2 fx2) K=(let q1:=i64.wrap (i64.wrap (x4+1)+1);let q2:=i64.wrap (i64.wrap (x4+1)+1)+1;let q3:=b7 (0+x20.toNat) (0+0) (T.int i64 x4) fx2;let q6:=b7 (0+x20.toNat) (0+1) (T.int i64 (i64.wrap (x4+1))) q3;let q7:=b7 (0+x20.toNat) (2+0) (T.int i64 q1) q6;let q8:=b7 (0+x20.toNat) (2+1) (T.int i64 (i64.wrap q2)) q7;let q9:=b7 (0+x20.toNat) (2+1) (T.int i64 (i64.wrap q2)) q7 (0+x20.toNat) (4+0);let q10:=b7 (0+x20.toNat) (4+0) (T.lent 2 q9.ln) q8;bif decide (x20 < (↑l.length:Int)) then gd (decide (0≤x20)&&(x20.toNat.blt l.length&&true))<|gd ((0+x20.toNat).blt nx2&&true&&true)<|gd (decide (0≤x20)&&(x20.toNat.blt l.length&&true))<|gd ((0+x20.toNat).blt nx2&&true&&true)<|gd (decide (0≤x20)&&(x20.toNat.blt l.length&&true))<|gd ((0+x20.toNat).blt nx2&&true&&true)<|gd (decide (0≤x20)&&(x20.toNat.blt l.length&&true))<|gd ((0+x20.toNat).blt nx2&&true&&true)<|gd (decide (0≤x20)&&(x20.toNat.blt l.length&&true))<|gd ((0+x20.toNat).blt nx2&&true&&(q9.isArr&&q9.wd.beq 2))<|gd ((0+x20.toNat).blt nx2&&true&&true&&((T.arr 11 nx2 q8).get [0+x20.toNat,4+0]).isArr)<|gd (q9.ln.beq ((T.arr 11 nx2 q8).get [0+x20.toNat,4+0]).ln&&Nat.beq 2 ((T.arr 11 nx2 q8).get [0+x20.toNat,4+0]).wd)<|d7 P9 a2l (fun x=>x) [(1,false,[C.tr true (T.arr 2 q9.ln ((T.arr 11 nx2 q8).get [0+x20.toNat,4+0]).fn)]),(0,false,[C.tr false (T.int i64 (i64.wrap (i64.wrap q2+1)))])] fun (r1:List Hd × Int)=>let q0:=i64.wrap (a8x r1+1)+1;let q4:=T.arr 2 (a8w r1).length (atL Hd.cs (a8w r1));let q11:=b7 (0+x20.toNat) (4+0) q4 q10;let q12:=b7 (0+x20.toNat) 5 (T.int i64 (a8x r1)) q11;let q13:=b7 (0+x20.toNat) 6 (T.int i64 (i64.wrap (a8x r1+1))) q12;let q14:=b7 (0+x20.toNat) 7 (T.bool ((i64.wrap q0).tmod 3==0)) q13;let q15:=b7 (0+x20.toNat) 8 (T.int i64 (i64.wrap (i64.wrap q0+1))) q14;let q16:=b7 (0+x20.toNat) 8 (T.int i64 (i64.wrap (i64.wrap q0+1))) q14 (0+x20.toNat) (9+0);let q17:=b7 (0+x20.toNat) (9+0) (T.lent 1 q16.ln) q15;gd (q9.ln.beq (a8w r1).length&&((0+x20.toNat).blt nx2&&true&&true))<|gd (decide (0≤x20)&&(x20.toNat.blt l.length&&true))<|gd ((0+x20.toNat).blt nx2&&true&&true)<|gd (decide (0≤x20)&&(x20.toNat.blt l.length&&true))<|gd ((0+x20.toNat).blt nx2&&true&&true)<|gd (decide (0≤x20)&&(x20.toNat.blt l.length&&true))<|gd ((0+x20.toNat).blt nx2&&true&&true)<|gd (decide (0≤x20)&&(x20.toNat.blt l.length&&true))<|gd ((0+x20.toNat).blt nx2&&true&&true)<|gd (decide (0≤x20)&&(x20.toNat.blt l.length&&true))<|gd ((0+x20.toNat).blt nx2&&true&&(q16.isArr&&q16.wd.beq 1))<|gd ((0+x20.toNat).blt nx2&&true&&true&&((T.arr 11 nx2 q15).get [0+x20.toNat,9+0]).isArr)<|gd (q16.ln.beq ((T.arr 11 nx2 q15).get [0+x20.toNat,9+0]).ln&&Nat.beq 1 ((T.arr 11 nx2 q15).get [0+x20.toNat,9+0]).wd)<|d7 Q0 a2n (fun x=>x) [(1,false,[C.tr true (T.arr 1 q16.ln ((T.arr 11 nx2 q15).get [0+x20.toNat,9+0]).fn)]),(0,false,[C.tr false (T.int i64 (i64.wrap (i64.wrap (i64.wrap q0+1)+1)))])] fun (r2:List Sf × Int)=>let q5:=T.arr 1 (a8A r2).length (atL Sf.cs (a8A r2));let q18:=b7 (0+x20.toNat) (9+0) q5 q17;let q19:=b7 (0+x20.toNat) (9+0) q5 q17 (0+x20.toNat) (10+0);gd (q16.ln.beq (a8A r2).length&&((0+x20.toNat).blt nx2&&true&&true))<|gd (decide (0≤x20)&&(x20.toNat.blt l.length&&true))<|gd ((0+x20.toNat).blt nx2&&true&&(q19.isArr&&q19.wd.beq 1))<|gd ((0+x20.toNat).blt nx2&&true&&true&&((T.arr 11 nx2 q18).get [0+x20.toNat,10+0]).isArr)<|gd (q19.ln.beq ((T.arr 11 nx2 q18).get [0+x20.toNat,10+0]).ln&&Nat.beq 1 ((T.arr 11 nx2 q18).get [0+x20.toNat,10+0]).wd)<|d7 H0 a2d (fun x=>x) [(1,false,[C.tr true (T.arr 1 q19.ln ((T.arr 11 nx2 q18).get [0+x20.toNat,10+0]).fn)]),(0,false,[C.tr false (T.int i64 (b5E r2))])] fun (r3:List Int × Int)=>gd (q19.ln.beq (H1 r3).length&&((0+x20.toNat).blt nx2&&true&&true))<|K .normal (a4i l k (P3 r3) (i64.wrap (x20+1)) (nx2) (b7 (0+x20.toNat) (10+0) (T.arr 1 (H1 r3).length (atL b6 (H1 r3))) (b7 (0+x20.toNat) (10+0) (T.lent 1 q19.ln) q18))) else K (.exit 0) (b2e l k x4 x20 nx2 fx2)):=by kernel_rfl
theorem c6t (l:List Rm) (k:Int) (x4:Int) (x20:Int) (nx2:Nat) (fx2:Nat→Nat→T) (n:Nat):d5 prog tb2 a5B a8E d1k [1,0,1,0] [] n (.exit 0) (b2e l k x4 x20 nx2 fx2)=(some ([(false,[.tr true (T.int i64 x4)])],[(false,[.tr true (.arr (11) (nx2) (fx2))]),(false,[])])):=by kernel_rfl
theorem e0p (l:List Rm) (k:Int) (n:Nat):body prog tb2 a5B n a8E [lT (eL 11 Rm.cs l),aI k]=(j5 prog tb2 a5B a8E [1,0,1,0] n n (a4i l k (k) (0) (T.ln (eL 11 Rm.cs l)) (T.fn (eL 11 Rm.cs l))) (d5 prog tb2 a5B a8E d1k [1,0,1,0] [] n)):=by kernel_rfl
theorem d7K (l:List Rm) (k:Int) (h:I0 (l,k)):body prog tb2 a5B (l.length+1) a8E (a1i (l,k))=some ([oT (.int .i64 (b1n (l,k)))],[oT (eL 11 Rm.cs (G7 (l,k))),nul]):=by
 obtain ⟨hl,hk0,hk1⟩:=h
 have hbm:=bm
 dsimp only at hl hk0 hk1
 have hl':l.length≤BM:=hl.1
 unfold a1i b1n G7
 dsimp only
 rw [e0p]
 have hst:a4i l k k 0 l.length (atL Rm.cs l)=(fun i:Nat=>a4i l k (k+cntL m3 (l.take i)) (i:Nat) l.length (atL Rm.cs (mkd A5 m3 l k i))) 0:=by simp [cntL,a5u]
 refine Eq.trans (congrArg (fun s=>j5 prog _ _ _ _ _ _ s _) hst) ?_
 rw [v5 l.length (fun i:Nat=>a4i l k (k+cntL m3 (l.take i)) (i:Nat) l.length (atL Rm.cs (mkd A5 m3 l k i))) (b2e l k (k+cntL m3 l) l.length l.length (atL Rm.cs (J4 l k))) 0 (fun i K hi=>?_) (fun K=>?_) _ (Nat.le_refl _)]
 ·rw [c6t]
  have:=u9 A5 m3 l k
  rw [l7,show (J4 l k).length=l.length from this]
  rfl
 ·have hx:=List.getElem?_eq_getElem hi
  obtain ⟨x,hxe⟩:∃ x,x=l[i]:=⟨_,rfl⟩
  rw [← hxe] at hx
  have hxm:x∈l:=List.mem_of_getElem? hx
  have hg:=a8m A5 m3 l k hx
  have hc:=C1 m3 l hx
  have hcl:=T6 m3 l (i+1)
  have hcx:m3 x=1+1+1+1+cntL l8 x.kids+1+1+1+1+cntL m9 x.things+cntL p7 x.tags:=rfl
  have h0:=(hl.2 _ hxm).1
  have h1:=(hl.2 _ hxm).2.1
  have h2:=(hl.2 _ hxm).2.2
  rw [hc,b7N]
  have hms:=a8n A5 m3 l k hx
  have hml:i < (mkd A5 m3 l k i).length:=by rw [a8l _ _ _ _ (by omega)];exact hi
  obtain ⟨k0,hk⟩:∃ k0,k0=k+(cntL m3 (l.take i):Int):=⟨_,rfl⟩
  have hk2:k+((cntL m3 (l.take i)+m3 x:Nat):Int)=k0+1+1+1+1+cntL l8 x.kids+1+1+1+1+cntL m9 x.things+cntL p7 x.tags:=by omega
  rw [hk2]
  rw [← hk] at hms ⊢
  have g0:P9 (x.kids,k0+1+1+1+1):=⟨h0,by dsimp only;omega,by dsimp only;omega⟩
  have g1:Q0 (x.things,k0+1+1+1+1+cntL l8 x.kids+1+1+1+1):=⟨h1,by dsimp only;omega,by dsimp only;omega⟩
  have g2:H0 (x.tags,k0+1+1+1+1+cntL l8 x.kids+1+1+1+1+cntL m9 x.things):=⟨h2,by dsimp only;omega,by dsimp only;omega⟩
  simp (disch:=omega) only [f4,hi,d6 hg,Rm.cs,v8,o3,A6,and_self,if_true,if_false,true_and,false_and,and_true,and_false,Nat.add_zero,Nat.reduceEqDiff,Nat.reduceAdd,b4 (e4m g0) (e4n g0),b9l,e8f,e8g,b4 (e4v g1) (e4w g1),b3O,e8s,e8t,b4 (c5P g2) (c5Q g2),b6R,d9Q,d9R]
  rw [← hms]
  congr 2
  refine R7 hml fun j' k'=>?_
  by_cases e:j'=i
  ·subst e
   rcases k' with _ | _ | _ | _ | _ | _ | _ | _ | _ | _ | _ | k' <;> simp [d5x,A6,Rm.cs,A5,d6 hg,l7,b9l,b3O,b6R]
  ·simp [A6,e]
 ·rw [b7N,a8k]
  simp only [p8,Nat.lt_irrefl,decide_false,cond_false,List.take_length]
  rfl
theorem e8I:d8 prog d5B d5z:=g8 c1w fun x hx =>
 b9 (φ:=tb2) (a9 e8c (a9 e8p (a9 d9F b5))) d9 (kp:=a5B) (n:=x.1.length+1) func46 (c:=d3 a8E) (by kernel_rfl) (d7K x.1 x.2 hx) (b8 (by kernel_rfl))
theorem e4H {l:List Rm} {k:Int} (h:I0 (l,k)):dom I0 a2o [(0,false,[C.tr false (T.arr 11 l.length (atL Rm.cs l))]),(0,false,[C.tr false (T.int i64 k)])]=true:=i3 (ea:=a2o) (x:=(l,k)) h
theorem e4I {l:List Rm} {k:Int} (h:I0 (l,k)):inv I0 a2o [(0,false,[C.tr false (T.arr 11 l.length (atL Rm.cs l))]),(0,false,[C.tr false (T.int i64 k)])]=(l,k):=g9 c1v (x:=(l,k)) h
theorem e8J {l:List Rm} {k:Int} (h:l=J4 l k):b1m (l,k)=k+cntL m3 l:=if_pos h
theorem e8K {l:List Rm} {k:Int} (h:¬ l=J4 l k):b1m (l,k)=-1:=if_neg h
theorem d1l {l:List Rm} {k:Int} (h:I0 (l,k)):dom I0 a1i [(1,false,[C.tr true (T.arr 11 l.length (atL Rm.cs l))]),(0,false,[C.tr false (T.int i64 k)])]=true:=i3 (ea:=a1i) (x:=(l,k)) h
theorem d1m {l:List Rm} {k:Int} (h:I0 (l,k)):inv I0 a1i [(1,false,[C.tr true (T.arr 11 l.length (atL Rm.cs l))]),(0,false,[C.tr false (T.int i64 k)])]=(l,k):=g9 c1w (x:=(l,k)) h
theorem b9m (l:List Rm) (k:Int):(J4 l k).length=l.length:=u9 _ _ _ _
theorem e8L (l:List Rm) (k:Int):G7 (l,k)=J4 l k:=rfl
theorem e8M (l:List Rm) (k:Int):b1n (l,k)=k+cntL m3 l:=rfl
end Go.Mach.F
namespace Go.Mach.F
open Go Go.Mach Go.Proofs.Tryz
theorem e0q (l:List Rm):cntL m3 l≤16*o5 l:=by
 have:=a8D m3 j3 8 16 l fun x _=>by have:=f1e x.kids;have:=f1f x.things;have:=d7H x.tags;show m3 x≤_;unfold m3 j3;omega
 unfold o5
 omega
theorem e0r (l:List Rm) (k:Int):Nat.beq l.length (J4 l k).length=true:=by rw [b9m];simp only [a8o]
theorem d5C (x:Rm) (k:Int):m3 (A5 x k)=m3 x:=by simp only [m3,A5,d1g,d1h,d1i,d1j,c6q,b5H]
theorem e8N (x:Rm) (k:Int):A5 (A5 x k) k=A5 x k:=by simp only [A5,d1g,d1h,d1i,d1j,c6q,b5H]
theorem e4J (l:List Rm) (k:Int):J4 (J4 l k) k=J4 l k:=a4g A5 m3 (fun x k=>e8N x k) (fun x k=>d5C x k) l k
theorem c2I (l:List Rm) (k:Int):cntL m3 (J4 l k)=cntL m3 l:=a6C A5 m3 (fun x k=>d5C x k) l k
theorem e0s {l:List Rm} {k:Int} (h:u6 l):u6 (J4 l k):=⟨by rw [b9m];exact h.1,fun x hx=>by
  obtain ⟨i,hi,e⟩:=List.getElem_of_mem hx
  have hi':i < l.length:=by rw [b9m] at hi;exact hi
  have hg:=a9K A5 m3 l k (List.getElem?_eq_getElem hi')
  have he:(J4 l k)[i]?=some x:=by rw [List.getElem?_eq_getElem hi,e]
  rw [show (J4 l k)[i]?=(H8 A5 m3 l k)[i]? from rfl,hg] at he
  obtain rfl:=Option.some.inj he
  have hy:l[i]∈l:=List.getElem_mem hi'
  exact ⟨e0m ((h.2 _ hy).1),e0n ((h.2 _ hy).2.1),d1f ((h.2 _ hy).2.2)⟩⟩
end Go.Mach.F
namespace Go.Mach
open Go
inductive Sh where
 | int (k:IntKind)
 | bool
 | arr (ss:List Sh)
def c2J (P:Program) (sub:TypeId→Option (List Sh)):Nat→List Field→Option (List Sh)
 | _,[]=>some []
 | o,f::l=>bif Nat.beq f.offset o then match sub f.type with
  | some a=>bif Nat.beq a.length (P.cellsOf f.type) then match c2J P sub (o+a.length) l with
   | some r=>some (a ++ r)
   | none=>none
   else none
  | none=>none
  else none
/-- The shapes of a type's cells. -/
def b4K (P:Program):Nat→TypeId→Option (List Sh)
 | 0,_=>none
 | n+1,t=>match P.underlying t with
  | some .bool=>some [.bool]
  | some (.int k)=>some [.int k]
  | some (.slice e)=>match b4K P n e with
   | some l=>bif Nat.beq l.length (P.cellsOf e)&&Nat.blt 0 (P.bytesOf e)&&Nat.blt 0 l.length then some [.arr l] else none
   | none=>none
  | some (.struct fs)=>match c2J P (b4K P n) 0 fs.toList with
   | some l=>bif Nat.beq l.length (P.cellsOf t) then some l else none
   | none=>none
  | _=>none
/-- A tree has a shape. -/
def ShT:T→Sh→Prop
 | .int k n,s=>s=.int k∧(Lit.int k n).wf=true
 | .bool _,s=>s=.bool
 | .arr m n f,s=>∃ ss,s=.arr ss∧m=ss.length∧n≤F.ZM∧(∀ j,j < n→∀ k s',ss[k]?=some s'→ShT (f j k) s')∧∀ j k,(n≤j∨m≤k)→f j k=.hole
 | _,_=>False
def Cl (w:World) (N:Nat→Prop) (ts:List T) (ss:List Sh) (cs:List Value):Prop :=
 ts.length=ss.length∧cs.length=ss.length∧∀ (k:Nat) s,ss[k]?=some s→∃ t v,ts[k]?=some t∧cs[k]?=some v∧ShT t s∧V3 w N t v
theorem Cl.nil {w N}:Cl w N [] [] []:=⟨rfl,rfl,fun k s h=>by simp at h⟩
theorem Cl.one {w N t s v} (h:ShT t s) (h':V3 w N t v):Cl w N [t] [s] [v]:=⟨rfl,rfl,fun k s' hk=>by
 cases k with
 | zero=>simp at hk;subst hk;exact ⟨t,v,rfl,rfl,h,h'⟩
 | succ k=>simp at hk⟩
theorem Cl.append {w N ts ss cs ts' ss' cs'} (h:Cl w N ts ss cs) (h':Cl w N ts' ss' cs'):Cl w N (ts ++ ts') (ss ++ ss') (cs ++ cs'):=by
 refine ⟨by simp [h.1,h'.1],by simp [h.2.1,h'.2.1],fun k s hk=>?_⟩
 by_cases hl:k < ss.length
 ·rw [List.getElem?_append_left hl] at hk
  rw [List.getElem?_append_left (by rw [h.1];exact hl),List.getElem?_append_left (by rw [h.2.1];exact hl)]
  exact h.2.2 k s hk
 ·rw [List.getElem?_append_right (by omega)] at hk
  rw [List.getElem?_append_right (by rw [h.1];omega),List.getElem?_append_right (by rw [h.2.1];omega),h.1,h.2.1]
  exact h'.2.2 _ s hk
section
variable {H:Type} {enc:TypeId × Value→H} {P:Program} {w:World} {base:Nat} {spare:Nat→Bool} {held:Bool} {N:Nat→Prop}
/-- What is needed of a told value. -/
def Fit (P:Program) (N:Nat→Prop) (t:TypeId) (x:DataW H × List MemPlace):Prop:=(∀ p∈x.2,N p.block)∧∀ m∈x.1.weights P t,m≤reachBytes
theorem b5I {e:TypeId}:∀ {ds:List (DataW H)} {j:Nat} {d:DataW H},ds[j]?=some d→∀ n∈d.weights P e,n∈DataW.weightsAll P e ds
 | d0::ds,0,d,hd,n,hn=>by
  simp only [List.getElem?_cons_zero,Option.some.injEq] at hd
  subst hd
  simp only [DataW.weightsAll,List.mem_append]
  exact .inl hn
 | d0::ds,j+1,d,hd,n,hn=>by
  simp only [List.getElem?_cons_succ] at hd
  simp only [DataW.weightsAll,List.mem_append]
  exact .inr (b5I hd n hn)
 | [],_,_,hd,_,_=>by simp at hd
theorem e4K {n b:Nat} (h:n*b≤reachBytes) (hb:0 < b):n≤F.ZM:=by
 have:=reachBytes_lt
 have hz:=F.zm
 have:n*1≤n*b:=Nat.mul_le_mul_left n hb
 omega
theorem d5D {sub:TypeId→Option (List Sh)} {tr:TypeId→List Value→Option (DataW H × List MemPlace)}
  (hsub:∀ t ss cs x,sub t=some ss→tr t cs=some x→Fit P N t x→∃ ts,Cl w N ts ss cs) (cs:List Value) :
  ∀ (fs:List Field) (o:Nat) (ss:List Sh),c2J P sub o fs=some ss→(∀ (i:Nat) (f:Field),fs[i]?=some f→∃ x,tr f.type ((cs.drop f.offset).take (P.cellsOf f.type))=some x∧Fit P N f.type x) →
   ∃ ts,Cl w N ts ss ((cs.drop o).take ss.length)
 | [],o,ss,h,_=>by
  simp only [c2J,Option.some.injEq] at h
  subst h
  exact ⟨[],by simpa using Cl.nil⟩
 | f::fs,o,ss,h,hx=>by
  unfold c2J at h
  cases ho:Nat.beq f.offset o with
  | false=>simp [ho] at h
  | true =>
   simp only [ho,cond_true] at h
   cases ha:sub f.type with
   | none=>simp [ha] at h
   | some a =>
    simp only [ha] at h
    cases hl:Nat.beq a.length (P.cellsOf f.type) with
    | false=>simp [hl] at h
    | true =>
     simp only [hl,cond_true] at h
     cases hr:c2J P sub (o+a.length) fs with
     | none=>simp [hr] at h
     | some r =>
      simp only [hr,Option.some.injEq] at h
      subst h
      obtain ⟨x,hx0,hf⟩:=hx 0 f rfl
      obtain ⟨ts,hts⟩:=hsub f.type a _ x ha hx0 hf
      obtain ⟨tr',htr⟩:=d5D hsub cs fs (o+a.length) r hr fun i f' hi=>hx (i+1) f' (by simpa using hi)
      have e1:=Nat.eq_of_beq_eq_true ho
      have e2:=Nat.eq_of_beq_eq_true hl
      rw [← e2,e1] at hts
      refine ⟨ts ++ tr',?_⟩
      have:=hts.append htr
      rw [List.length_append,List.take_add]
      rw [List.drop_drop]
      exact this
theorem e8O {a:Addr} {n:Nat} {N:Nat→Prop} (h:∀ p∈MemPlace.row a n,N p.block) (hn:0 < n):N a.block :=
 h (.cell a.block (a.off+0)) (List.mem_map.2 ⟨0,by simp;omega,rfl⟩)
theorem c0M:∀ (n:Nat) (t:TypeId) (ss:List Sh),b4K P n t=some ss→∀ (fuel:Nat) (cs:List Value) (x:DataW H × List MemPlace),DataW.trod enc P w base spare held fuel t cs=some x→Fit P N t x→∃ ts,Cl w N ts ss cs
 | 0,_,_,h,_,_,_,_,_=>by simp [b4K] at h
 | n+1,t,ss,h,fuel,cs,x,hx,hf=>by
  unfold b4K at h
  split at h
  case h_1 hu =>
   simp only [Option.some.injEq] at h
   subst h
   obtain ⟨b,rfl,_⟩:=DataW.trod_bool hu hx
   exact ⟨[.bool b],.one rfl rfl⟩
  case h_2 k hu =>
   simp only [Option.some.injEq] at h
   subst h
   obtain ⟨m,rfl,_,hw⟩:=DataW.trod_int hu hx
   exact ⟨[.int k m],.one ⟨rfl,hw⟩ rfl⟩
  case h_3 e hu =>
   cases hl:b4K P n e with
   | none=>simp [hl] at h
   | some l =>
    simp only [hl] at h
    cases hb:(Nat.beq l.length (P.cellsOf e)&&Nat.blt 0 (P.bytesOf e)&&Nat.blt 0 l.length) with
    | false=>simp [hb] at h
    | true =>
     simp only [hb,cond_true,Option.some.injEq] at h
     subst h
     simp only [Bool.and_eq_true,Nat.blt_eq] at hb
     obtain ⟨⟨h1,h2⟩,h3⟩:=hb
     have h1:=Nat.eq_of_beq_eq_true h1
     rcases DataW.trod_slice hu hx with ⟨rfl,rfl⟩ | ⟨a,len,cap,elems,rest,m,rfl,rfl,rfl,hba,hlc,hcap,hel,hat,_,_⟩
     ·exact ⟨[.arr l.length 0 fun _ _=>.hole],.one ⟨l,rfl,rfl,Nat.zero_le _,fun j hj=>by omega,fun _ _ _=>rfl⟩ ⟨none,0,rfl,Nat.le_refl _,fun h=>by omega⟩⟩
     ·obtain ⟨hp,hw⟩:=hf
      dsimp only at hp hw
      simp only [DataW.weights,hu,List.mem_cons,List.mem_append,List.length_map] at hw
      have hlen:len≤F.ZM:=by
       have:=e4K (hw _ (.inl rfl)) h2
       omega
      have key:∀ i,∃ ts,i < len→∃ csi,w.cells? base (a.add (i*P.cellsOf e)) (P.cellsOf e)=some csi∧Cl w N ts l csi:=fun i=>by
       by_cases hi:i < len
       ·have h4:=hat i hi
        have hxi:=List.getElem?_eq_getElem (show i < elems.length by omega)
        rw [hxi] at h4
        obtain ⟨csi,h5,h6⟩:=Option.bind_eq_some_iff.1 h4
        have hfi:Fit P N e elems[i]:=by
         refine ⟨fun p hp'=>hp p (List.mem_append_right _ (List.mem_flatMap.2 ⟨elems[i],List.mem_append_left _ (List.getElem_mem _),hp'⟩)),fun m' hm'=>hw m' (.inr (.inl ?_))⟩
         exact b5I (j:=i) (d:=elems[i].1) (by rw [List.getElem?_map,hxi];rfl) _ hm'
        obtain ⟨ts,hts⟩:=c0M n e l hl m csi _ h6 hfi
        exact ⟨ts,fun _=>⟨csi,h5,hts⟩⟩
       ·exact ⟨[],fun h=>absurd h hi⟩
      obtain ⟨g,hg⟩:=Classical.axiomOfChoice key
      refine ⟨[.arr l.length len fun j k=>if j < len then (g j).getD k .hole else .hole],.one ⟨l,rfl,rfl,hlen,fun j hj k s' hs=>?_,fun j k hjk=>?_⟩ ⟨some a,cap,rfl,hlc,fun h0=>?_⟩⟩
      ·simp only [hj,if_true]
       obtain ⟨csj,_,hcl⟩:=hg j hj
       obtain ⟨t',v',ht',_,hsh,_⟩:=hcl.2.2 k s' hs
       rw [List.getD_eq_getElem?_getD,ht']
       exact hsh
      ·by_cases hj:j < len
       ·simp only [hj,if_true]
        obtain ⟨csj,_,hcl⟩:=hg j hj
        rw [List.getD_eq_getElem?_getD,List.getElem?_eq_none (by rw [hcl.1];omega)]
        rfl
       ·simp only [hj,if_false]
      ·have hpos:0 < (elems.length+rest.length)*P.cellsOf e:=Nat.mul_pos (by omega) (by omega)
       have hN:N a.block:=e8O (fun p hp'=>hp p (List.mem_append_left _ hp')) hpos
       obtain ⟨cs0,hc0,hcl0⟩:=hg 0 h0
       obtain ⟨_,hlen0,hcell0⟩:=World.cells?_some hc0
       have g0:=hcell0 0 (by omega)
       have hsp:a.spot=none:=by
        obtain ⟨v0,hv0⟩:∃ v0,cs0[0]?=some v0:=⟨_,List.getElem?_eq_getElem (by omega)⟩
        rw [hv0] at g0
        have:=World.cell?_spot g0
        simpa [Addr.add] using this
       obtain ⟨b,off,sp⟩:=a
       dsimp only at hsp
       subst hsp
       refine ⟨b,off,rfl,hN,fun j hj k hk=>?_⟩
       simp only [hj,if_true]
       obtain ⟨csj,hcj,hcl⟩:=hg j hj
       obtain ⟨_,hlenj,hcellj⟩:=World.cells?_some hcj
       obtain ⟨t',v',ht',hv',_,him⟩:=hcl.2.2 k l[k] (List.getElem?_eq_getElem hk)
       have hc:=hcellj k (by omega)
       rw [WideShapes.add_plain,WideShapes.add_plain,hv'] at hc
       refine ⟨v',?_,by rw [List.getD_eq_getElem?_getD,ht'];exact him⟩
       rw [show off+(j*l.length+k)=off+j*P.cellsOf e+k by rw [h1];omega]
       exact hc
  case h_4 fs hu =>
   cases hl:c2J P (b4K P n) 0 fs.toList with
   | none=>simp [hl] at h
   | some l =>
    simp only [hl] at h
    cases hb:Nat.beq l.length (P.cellsOf t) with
    | false=>simp [hb] at h
    | true =>
     simp only [hb,cond_true,Option.some.injEq] at h
     subst h
     have hb:=Nat.eq_of_beq_eq_true hb
     obtain ⟨xs,m,rfl,rfl,hlen,hxl,hget⟩:=DataW.trod_struct hu hx
     obtain ⟨hp,hw⟩:=hf
     dsimp only at hp hw
     simp only [DataW.weights,hu] at hw
     obtain ⟨ts,hts⟩:=d5D (P:=P) (w:=w) (N:=N) (sub:=b4K P n) (tr:=DataW.trod enc P w base spare held m) (fun t' ss' cs' x' h1 h2 h3=>c0M n t' ss' h1 m cs' x' h2 h3) cs fs.toList 0 l hl fun i f hi=>by
      have hi':fs[i]?=some f:=by simpa using hi
      have hil:i < fs.size:=(Array.getElem?_eq_some_iff.1 hi').1
      have hx':=hget i f hi'
      have hxi:=List.getElem?_eq_getElem (show i < xs.length by omega)
      rw [hxi] at hx'
      refine ⟨_,hx',fun p hp'=>hp p (List.mem_flatMap.2 ⟨xs[i],List.getElem_mem _,hp'⟩),fun m' hm'=>hw m' ?_⟩
      exact DataW.weights_mem_each (j:=i) (t:=f.type) (d:=xs[i].1) (by simp [hi']) (by simp [hxi]) _ hm'
     refine ⟨ts,?_⟩
     rw [List.drop_zero,hb,← hlen,List.take_length] at hts
     exact hts
  case h_5=>cases h
end
/-! ### arguments -/
def D0:Nat→Prop:=Dof fun _=>noG
theorem d1n (b:Nat):¬ D0 b:=fun ⟨_,_,_,_,h,_⟩=>by cases h
def a5C:List T→List Sh→Prop
 | [],[]=>True
 | t::ts,s::ss=>ShT t s∧a5C ts ss
 | _,_=>False
theorem Cl.shts {w N}:∀ {ts ss cs},Cl w N ts ss cs→a5C ts ss
 | [],[],_,_=>trivial
 | [],s::ss,_,h=>by have:=h.1;simp at this
 | t::ts,[],_,h=>by have:=h.1;simp at this
 | t::ts,s::ss,[],h=>by have:=h.2.1;simp at this
 | t::ts,s::ss,c::cs,h=>by
  refine ⟨?_,Cl.shts (w:=w) (N:=N) (ts:=ts) (ss:=ss) (cs:=cs) ⟨by simpa using h.1,by simpa using h.2.1,fun k s' hk=>?_⟩⟩
  ·obtain ⟨t',v',ht,_,hs,_⟩:=h.2.2 0 s rfl
   simp at ht
   subst ht
   exact hs
  ·obtain ⟨t',v',ht,hv,hs,hr⟩:=h.2.2 (k+1) s' (by simpa using hk)
   exact ⟨t',v',by simpa using ht,by simpa using hv,hs,hr⟩
section
variable {H:Type} {enc:TypeId × Value→H} {P:Program} {W:World}
theorem open_row {n:Nat} {t:TypeId} {ss:List Sh} {vs:Array Value} {d:DataW H} {ps:List MemPlace} (hs:b4K P n t=some ss) (h:DataW.Trod enc P W 0 (fun _=>true) true t (.agg vs) d ps) (hlt:∀ x∈ps,x.block < W.heap.size) (hw:∀ m∈d.weights P t,m≤reachBytes) :
  ∃ ts,a5C ts ss∧a7v W D0 (F.aR ts).2 (.agg vs):=by
 obtain ⟨fuel,hf⟩:=h
 obtain ⟨ts,hts⟩:=c0M (N:=fun b=>b < W.heap.size) n t ss hs fuel _ (d,ps) hf ⟨hlt,hw⟩
 refine ⟨ts,hts.shts,fun G V=>⟨vs,rfl,?_,fun k c hk=>?_⟩⟩
 ·have h1:=hts.1
  have h2:=hts.2.1
  simp only [Value.cells,Array.length_toList] at h2
  simp only [F.aR,List.length_map]
  omega
 ·simp only [F.aR,List.getElem?_map,Option.map_eq_some_iff] at hk
  obtain ⟨t',ht',rfl⟩:=hk
  have hk:k < ss.length:=by rw [← hts.1];exact (List.getElem?_eq_some_iff.1 ht').1
  obtain ⟨t2,v,h1,h2,_,him⟩:=hts.2.2 k ss[k] (List.getElem?_eq_getElem hk)
  rw [ht'] at h1
  cases h1
  simp only [Value.cells,Array.getElem?_toList] at h2
  refine ⟨v,h2,?_⟩
  have e:(A4 W D0).N=fun b=>b < W.heap.size:=by
   funext b
   simp only [Env.N,A4,d1n,not_false_eq_true,and_true]
  show V3 W (A4 W D0).N t' v
  rw [e]
  exact him
theorem open_cell {n:Nat} {t:TypeId} {s:Sh} {v:Value} {d:DataW H} {ps:List MemPlace} (hv:v.cells=#[v]) (hs:b4K P n t=some [s]) (h:DataW.Trod enc P W 0 (fun _=>true) true t v d ps) (hlt:∀ x∈ps,x.block < W.heap.size) (hw:∀ m∈d.weights P t,m≤reachBytes) :
  ∃ t',ShT t' s∧a7v W D0 (F.aT t').2 v:=by
 obtain ⟨fuel,hf⟩:=h
 rw [hv] at hf
 obtain ⟨ts,hts⟩:=c0M (N:=fun b=>b < W.heap.size) n t [s] hs fuel _ (d,ps) hf ⟨hlt,hw⟩
 obtain ⟨t',v',h1,h2,h3,him⟩:=hts.2.2 0 s rfl
 simp at h2
 subst h2
 refine ⟨t',h3,fun G V=>?_⟩
 have e:(A4 W D0).N=fun b=>b < W.heap.size:=by
  funext b
  simp only [Env.N,A4,d1n,not_false_eq_true,and_true]
 show V3 W (A4 W D0).N t' v
 rw [e]
 exact him
end
/-! ### the arguments together -/
theorem args_x {w:World} {args:List Arg} {vals:Array Value} (hs:vals.size=args.length) (h:∀ (i:Nat) x,args[i]?=some x→x.1=0∧∃ u,vals[i]?=some u∧a7v w D0 x.2 u):ArgsX w args vals fun _=>noG where
 size:=hs
 inj:=fun i p i' p' ad c ad' c' h=>by cases h
 rng:=fun i p ad c h=>by cases h
 arg:=fun i x hi=>by
  obtain ⟨h0,u,hu,hr⟩:=h i x hi
  refine ⟨u,hu,?_⟩
  unfold ArgOk
  rw [if_neg (by omega),if_neg (by omega)]
  exact hr
theorem GrewD.below {w w':World} (h:GrewD w w' D0):RowKit.Below w.heap.size w w':=⟨h.os,h.tape,h.output,h.size,fun b hb=>h.old b hb (d1n b)⟩
theorem res_bool {w w':World} {γ:Nat→Gh} {args vals k b v δ} (h:ResX w w' γ args vals (F.erB k b).1 (F.erB k b).2 v δ):v=.bool b:=h.res (A4 w D0) (fun _=>noG) fun _=>z0
/-! ### shapes of lists -/
namespace F
theorem w8 {t:T} {k:IntKind} (h:ShT t (.int k)):∃ n,t=.int k n∧(Lit.int k n).wf=true:=by
 cases t <;> simp only [ShT] at h
 ·obtain ⟨h,hw⟩:=h
  cases h
  exact ⟨_,rfl,hw⟩
 ·cases h
 ·obtain ⟨_,h,_⟩:=h
  cases h
theorem e8P {t:T} (h:ShT t .bool):∃ b,t=.bool b:=by
 cases t <;> simp only [ShT] at h
 ·obtain ⟨h,hw⟩:=h
  cases h
 ·exact ⟨_,rfl⟩
 ·obtain ⟨_,h,_⟩:=h
  cases h
theorem a8F {α:Type} {row:α→List T} {ss:List Sh} (ok:α→Prop) (hrow:∀ x,(row x).length=ss.length) (hc:∀ ts,a5C ts ss→∃ x,ts=row x∧ok x) {t:T} (h:ShT t (.arr ss)) :
  ∃ l:List α,t=eL ss.length row l∧l.length≤ZM∧∀ x∈l,ok x:=by
 cases t <;> simp only [ShT] at h
 ·obtain ⟨h,hw⟩:=h
  cases h
 ·cases h
 rename_i m n f
 obtain ⟨ss',h1,rfl,hn,hin,hout⟩:=h
 cases h1
 have hts:∀ j,j < n→a5C ((List.range ss.length).map (f j)) ss:=by
  intro j hj
  have key:∀ (l:List Sh) (o:Nat),(∀ k s',l[k]?=some s'→ShT (f j (o+k)) s')→a5C ((List.range' o l.length).map (f j)) l:=by
   intro l
   induction l with
   | nil=>intro o _;trivial
   | cons s l ih =>
    intro o hl
    simp only [List.length_cons,List.range'_succ,List.map_cons]
    refine ⟨hl 0 s rfl,ih (o+1) fun k s' hk=>?_⟩
    have:=hl (k+1) s' (by simpa using hk)
    rwa [show o+(k+1)=o+1+k by omega] at this
  rw [List.range_eq_range']
  exact key ss 0 fun k s' hk=>by rw [Nat.zero_add];exact hin j hj k s' hk
 have hx:∀ j,∃ o:Option α,j < n→∃ x,o=some x∧(List.range ss.length).map (f j)=row x∧ok x:=fun j=>by
  by_cases hj:j < n
  ·obtain ⟨x,h1,h2⟩:=hc _ (hts j hj)
   exact ⟨some x,fun _=>⟨x,rfl,h1,h2⟩⟩
  ·exact ⟨none,fun h=>absurd h hj⟩
 obtain ⟨g,hg⟩:=Classical.axiomOfChoice hx
 have hl:∀ i,i≤n→∃ l:List α,l.length=i∧∀ j,j < i→l[j]?=g j:=by
  intro i
  induction i with
  | zero=>exact fun _=>⟨[],rfl,fun j hj=>by omega⟩
  | succ i ih =>
   intro hi
   obtain ⟨l,h1,h2⟩:=ih (by omega)
   obtain ⟨x,h3,_⟩:=hg i (by omega)
   refine ⟨l ++ [x],by simp [h1],fun j hj=>?_⟩
   by_cases hj':j < i
   ·rw [List.getElem?_append_left (by omega)];exact h2 j hj'
   ·have:j=i:=by omega
    subst this
    rw [List.getElem?_append_right (by omega),h1,h3]
    simp
 obtain ⟨l,h1,h2⟩:=hl n (Nat.le_refl _)
 refine ⟨l,d9t h1.symm fun j k=>?_,by omega,fun x hx=>?_⟩
 ·by_cases hj:j < n
  ·obtain ⟨x,h3,h4,_⟩:=hg j hj
   rw [h2 j hj,h3]
   dsimp only
   by_cases hk:k < ss.length
   ·rw [← h4,List.getD_eq_getElem?_getD,List.getElem?_map,List.getElem?_range hk]
    rfl
   ·rw [hout j k (.inr (by omega)),List.getD_eq_getElem?_getD,List.getElem?_eq_none (by rw [hrow];omega)]
    rfl
  ·rw [List.getElem?_eq_none (by omega)]
   exact hout j k (.inl (by omega))
 ·obtain ⟨j,hj,rfl⟩:=List.getElem_of_mem hx
  obtain ⟨y,h3,_,h5⟩:=hg j (by omega)
  have:=h2 j (by omega)
  rw [List.getElem?_eq_getElem hj,h3] at this
  cases this
  exact h5
theorem a6E {ts:List T} (h:a5C ts []):ts=[]:=by cases ts with | nil=>rfl | cons _ _=>exact h.elim
theorem m5 {ts:List T} {s ss} (h:a5C ts (s::ss)):∃ t ts',ts=t::ts'∧ShT t s∧a5C ts' ss:=by cases ts with | nil=>exact h.elim | cons t ts=>exact ⟨t,ts,rfl,h⟩
theorem e6W {t:T} (h:ShT t (.arr [.int .i64])):∃ l:List Int,t=eI l∧l.length≤ZM:=by
 obtain ⟨l,h1,h2,_⟩:=a8F (row:=b6) (fun _=>True) (fun _=>rfl) (fun ts hts=>by
  obtain ⟨t,ts',rfl,h1,h2⟩:=m5 hts
  obtain rfl:=a6E h2
  obtain ⟨n,rfl,_⟩:=w8 h1
  exact ⟨n,rfl,trivial⟩) h
 exact ⟨l,h1,h2⟩
theorem d7L {t:T} (h:ShT t (.arr [.int .u8])):∃ l:List UInt8,t=eB l∧l.length≤ZM:=by
 obtain ⟨l,h1,h2,_⟩:=a8F (row:=f5) (fun _=>True) (fun _=>rfl) (fun ts hts=>by
  obtain ⟨t,ts',rfl,h1,h2⟩:=m5 hts
  obtain rfl:=a6E h2
  obtain ⟨n,rfl,hw⟩:=w8 h1
  have hn:IntKind.u8.min≤n∧n≤IntKind.u8.max:=by simpa [Lit.wf] using hw
  rw [show IntKind.u8.min=0 from rfl,show IntKind.u8.max=255 from rfl] at hn
  refine ⟨UInt8.ofNat n.toNat,?_,trivial⟩
  simp only [f5,UInt8.toNat_ofNat']
  congr 2
  omega) h
 exact ⟨l,h1,h2⟩
end F
end Go.Mach
namespace Go.Mach.F
open Go Go.Mach Go.Proofs.Tryz
--=set_option maxRecDepth 100000
theorem j6 {cs cs':List T} (h:aR cs=aR cs'):cs=cs':=by
 have e:=congrArg (fun a:Arg=>a.2.2) h
 exact (List.map_inj_right (fun x y h=>by cases h;rfl)).1 e
theorem K7 {t t':T} (h:aT t=aT t'):t=t':=by cases h;rfl
theorem v9 {n m:Int} (h:aI n=aI m):n=m:=by cases h;rfl
theorem b5J {n m:Bool} (h:aB n=aB m):n=m:=by cases h;rfl
theorem a6F (b:Bool):(bif b then true else false)=b:=by cases b <;> rfl
theorem a6G (a b:Bool):(bif a then b else false)=(a&&b):=by cases a <;> rfl
theorem a6H {p q:Prop} [Decidable p] [Decidable q]:(decide p&&decide q)=decide (p∧q):=(Bool.decide_and p q).symm
theorem A1 (a b:Int):(a==b)=decide (a=b):=by by_cases h:a=b <;> simp [h]
theorem G8 {α:Type} (row:α→List T) (l:List α):l3 0 l.length (atL row l)=atL row l:=by
 funext j k
 unfold l3
 rw [V6,Bool.cond_decide]
 split
 ·rw [Nat.zero_add]
 ·rename_i h
  unfold atL
  rw [List.getElem?_eq_none (by omega)]
theorem e0t (b:Bool):(b==b)=true:=by cases b <;> rfl
theorem d7M (b:Bool):(b != b)=false:=by cases b <;> rfl
theorem e4L (a:Int):(a==a)=true:=by simp
theorem e0u (a:Int):(a != a)=false:=by simp
def aF (f:Nat) (cs:List T):Arg:=(0,(false,[.fn f [.pim cs.length (v3 cs)]]))
theorem c4x {f:Nat} {cs cs':List T} (hl:cs.length=cs'.length) (h:aF f cs=aF f cs'):cs=cs':=by
 simp only [aF,Prod.mk.injEq,List.cons.injEq,C.fn.injEq,Pt.pim.injEq,true_and,and_true] at h
 apply List.ext_getElem hl
 intro i hi hi'
 have:=congrFun h.2 i
 simpa [v3,List.getD_eq_getElem?_getD,List.getElem?_eq_getElem hi,List.getElem?_eq_getElem hi'] using this
theorem Hd.cs_ext {x y:Hd} (h:x.cs=y.cs):x=y:=Hd.cs_inj x y fun k=>by rw [h]
theorem Rf.cs_inj (x y:Rf) (h:∀ k,x.cs.getD k .hole=y.cs.getD k .hole):x=y:=by
 have h0:=h 0;have h1:=h 1;have h2:=h 2;have h3:=h 3
 rcases x with ⟨⟨x0,x1⟩,x2,x3⟩
 rcases y with ⟨⟨y0,y1⟩,y2,y3⟩
 simp only [Rf.cs,List.getD_cons_zero,List.getD_cons_succ,T.int.injEq,T.bool.injEq,true_and] at h0 h1 h2 h3
 subst h0;subst h1;subst h2;subst h3
 rfl
theorem Rf.cs_ext {x y:Rf} (h:x.cs=y.cs):x=y:=Rf.cs_inj x y fun k=>by rw [h]
def e0v:Nat:=80
noncomputable abbrev e0w:Func:=f80
def e8Q:List (Nat × List Nat):=[(0,kq [3,5]),(1,kq [3,5,7]),(2,kq [3,5,7]),(3,kq [3,5,7]),(4,kq [5,7]),(5,[8,9])]
noncomputable def e0x:Ent:=inl [] prog (b3 [(a3f,a3g)]) e8Q 0 e0w
theorem e0y:d8 prog e0v e0x:=p6 (a9 b9j b5) d9 (c:=d3 e0w) func80 (by kernel_rfl) (b8 (by kernel_rfl))
theorem Cf.cs_inj (x y:Cf) (h:∀ k,x.cs.getD k .hole=y.cs.getD k .hole):x=y:=by
 have h0:=h 0;have h1:=h 1;have h2:=h 2;have h3:=h 3;have h4:=h 4;have h5:=h 5
 rcases x with ⟨x0,x1,x2,x3,x4,x5⟩
 rcases y with ⟨y0,y1,y2,y3,y4,y5⟩
 simp only [Cf.cs,List.getD_cons_zero,List.getD_cons_succ,T.int.injEq,T.bool.injEq,true_and] at h0 h1 h2 h3 h4 h5
 subst h0;subst h1;subst h2;subst h3;subst h4;subst h5
 rfl
theorem Cf.cs_ext {x y:Cf} (h:x.cs=y.cs):x=y:=Cf.cs_inj x y fun k=>by rw [h]
def e0z:Nat:=34
noncomputable abbrev e0A:Func:=f34
def e8R:List (Nat × List Nat):=[(0,kq [3,5]),(1,kq [3,5,7]),(2,kq [3,5,7]),(3,kq [3,5,7]),(4,kq [3,5,7]),(5,kq [3,5,7]),(6,kq [3,5,7]),(7,kq [5,7]),(8,[8,9])]
noncomputable def e0B:Ent:=inl [] prog (b3 []) e8R 0 e0A
theorem f1g:d8 prog e0z e0B:=p6 b5 d9 (c:=d3 e0A) func34 (by kernel_rfl) (b8 (by kernel_rfl))
def e0C:Nat:=41
noncomputable abbrev e0D:Func:=f41
def e8S:List (Nat × List Nat):=[(0,kq [5,7]),(1,kq [5,7,18]),(2,[16]),(3,kq [5,7,28]),(4,[16]),(5,kq [5,7,38]),(6,[16]),(7,kq [5,7,48]),(8,[16]),(9,kq [5,7,58]),(10,[16]),(11,[136]),(12,[16]),(13,[16])]
noncomputable def e0E:Ent:=inl [] prog (b3 []) e8S 0 e0D
theorem f1h:d8 prog e0C e0E:=p6 b5 d9 (c:=d3 e0D) func41 (by kernel_rfl) (b8 (by kernel_rfl))
abbrev e4M:List Sh:=[.int .i64,.int .i64]
def e4N (x:Hd):Prop:=True
theorem f2J {ts:List T} (hh:a5C ts e4M):∃ x:Hd,ts=x.cs∧e4N x:=by
 obtain ⟨t0,ts,rfl,h0,hh⟩:=m5 hh
 obtain ⟨t1,ts,rfl,h1,hh⟩:=m5 hh
 obtain rfl:=a6E hh
 obtain ⟨x0,rfl,_⟩:=w8 h0
 obtain ⟨x1,rfl,_⟩:=w8 h1
 exact ⟨⟨x0,x1⟩,rfl,trivial⟩
theorem f1i {t:T} (h:ShT t (.arr e4M)):∃ l:List Hd,t=eL 2 Hd.cs l∧l.length≤ZM∧∀ x∈l,e4N x:=a8F e4N (fun _=>rfl) (fun _ hts=>f2J hts) h
end Go.Mach.F
namespace Go.Mach.F
open Go Go.Mach Go.Proofs.Tryz
--=set_option maxRecDepth 100000
theorem Ml.cs_inj (x y:Ml) (h:∀ k,x.cs.getD k .hole=y.cs.getD k .hole):x=y:=by
 have h0:=h 0;have h1:=h 1;have h2:=h 2;have h3:=h 3;have h4:=h 4;have h5:=h 5;have h6:=h 6;have h7:=h 7
 rcases x with ⟨⟨x0,x1,x2,x3,x4,x5⟩,x6,x7⟩
 rcases y with ⟨⟨y0,y1,y2,y3,y4,y5⟩,y6,y7⟩
 simp only [Ml.cs,List.getD_cons_zero,List.getD_cons_succ,T.int.injEq,T.bool.injEq,true_and] at h0 h1 h2 h3 h4 h5 h6 h7
 replace h6:=m8 Rm.cs_inj h6
 replace h7:=J3 h7
 subst h0;subst h1;subst h2;subst h3;subst h4;subst h5;subst h6;subst h7
 rfl
theorem Rm.cs_ext {x y:Rm} (h:x.cs=y.cs):x=y:=Rm.cs_inj x y fun k=>by rw [h]
theorem Ml.cs_ext {x y:Ml} (h:x.cs=y.cs):x=y:=Ml.cs_inj x y fun k=>by rw [h]
noncomputable abbrev tb3:Sems:=b3 [(e0z,e0B),(d5q,d5o),(d0H,d0D)]
noncomputable abbrev tb4:Sems:=b3 [(e0C,e0E),(d5r,d5p),(d0I,d0E)]
noncomputable abbrev tb5:Sems:=b3 [(d5t,d5s),(d0L,d0M)]
abbrev e4O:List Sh:=[.arr [.int .u8]]
def e4P (x:Sf):Prop:=b5z x.b
theorem f2K {ts:List T} (hh:a5C ts e4O):∃ x:Sf,ts=x.cs∧e4P x:=by
 obtain ⟨t0,ts,rfl,h0,hh⟩:=m5 hh
 obtain rfl:=a6E hh
 obtain ⟨x0,rfl,z0⟩:=d7L h0
 exact ⟨⟨x0⟩,rfl,z0⟩
theorem f1j {t:T} (h:ShT t (.arr e4O)):∃ l:List Sf,t=eL 1 Sf.cs l∧l.length≤ZM∧∀ x∈l,e4P x:=a8F e4P (fun _=>rfl) (fun _ hts=>f2K hts) h
abbrev e4Q:List Sh:=[.int .i64,.int .i64,.int .i64,.int .i64,.arr e4M,.int .i64,.int .i64,.bool,.int .i64,.arr e4O,.arr [.int .i64]]
def e4R (x:Rm):Prop:=d5a x.kids∧c0K x.things∧c4t x.tags
theorem f2L {ts:List T} (hh:a5C ts e4Q):∃ x:Rm,ts=x.cs∧e4R x:=by
 obtain ⟨t0,ts,rfl,h0,hh⟩:=m5 hh
 obtain ⟨t1,ts,rfl,h1,hh⟩:=m5 hh
 obtain ⟨t2,ts,rfl,h2,hh⟩:=m5 hh
 obtain ⟨t3,ts,rfl,h3,hh⟩:=m5 hh
 obtain ⟨t4,ts,rfl,h4,hh⟩:=m5 hh
 obtain ⟨t5,ts,rfl,h5,hh⟩:=m5 hh
 obtain ⟨t6,ts,rfl,h6,hh⟩:=m5 hh
 obtain ⟨t7,ts,rfl,h7,hh⟩:=m5 hh
 obtain ⟨t8,ts,rfl,h8,hh⟩:=m5 hh
 obtain ⟨t9,ts,rfl,h9,hh⟩:=m5 hh
 obtain ⟨t10,ts,rfl,h10,hh⟩:=m5 hh
 obtain rfl:=a6E hh
 obtain ⟨x0,rfl,_⟩:=w8 h0
 obtain ⟨x1,rfl,_⟩:=w8 h1
 obtain ⟨x2,rfl,_⟩:=w8 h2
 obtain ⟨x3,rfl,_⟩:=w8 h3
 obtain ⟨x4,rfl,z4,_⟩:=f1i h4
 obtain ⟨x5,rfl,_⟩:=w8 h5
 obtain ⟨x6,rfl,_⟩:=w8 h6
 obtain ⟨x7,rfl⟩:=e8P h7
 obtain ⟨x8,rfl,_⟩:=w8 h8
 obtain ⟨x9,rfl,z9,y9⟩:=f1j h9
 obtain ⟨x10,rfl,z10⟩:=e6W h10
 exact ⟨⟨⟨x0,x1⟩,⟨x2,x3⟩,x4,x5,x6,x7,x8,x9,x10⟩,rfl,⟨z4,⟨z9,y9⟩,z10⟩⟩
theorem f1k {t:T} (h:ShT t (.arr e4Q)):∃ l:List Rm,t=eL 11 Rm.cs l∧l.length≤ZM∧∀ x∈l,e4R x:=a8F e4R (fun _=>rfl) (fun _ hts=>f2L hts) h
abbrev shMl:List Sh:=[.int .i64,.int .i64,.int .i64,.int .i64,.int .i64,.int .i64,.arr e4Q,.arr [.int .i64]]
def d7N (x:Ml):Prop:=c0L x.rooms∧c4t x.log
theorem sh_Ml {ts:List T} (hh:a5C ts shMl):∃ x:Ml,ts=x.cs∧d7N x:=by
 obtain ⟨t0,ts,rfl,h0,hh⟩:=m5 hh
 obtain ⟨t1,ts,rfl,h1,hh⟩:=m5 hh
 obtain ⟨t2,ts,rfl,h2,hh⟩:=m5 hh
 obtain ⟨t3,ts,rfl,h3,hh⟩:=m5 hh
 obtain ⟨t4,ts,rfl,h4,hh⟩:=m5 hh
 obtain ⟨t5,ts,rfl,h5,hh⟩:=m5 hh
 obtain ⟨t6,ts,rfl,h6,hh⟩:=m5 hh
 obtain ⟨t7,ts,rfl,h7,hh⟩:=m5 hh
 obtain rfl:=a6E hh
 obtain ⟨x0,rfl,_⟩:=w8 h0
 obtain ⟨x1,rfl,_⟩:=w8 h1
 obtain ⟨x2,rfl,_⟩:=w8 h2
 obtain ⟨x3,rfl,_⟩:=w8 h3
 obtain ⟨x4,rfl,_⟩:=w8 h4
 obtain ⟨x5,rfl,_⟩:=w8 h5
 obtain ⟨x6,rfl,z6,y6⟩:=f1k h6
 obtain ⟨x7,rfl,z7⟩:=e6W h7
 exact ⟨⟨⟨x0,x1,x2,x3,x4,x5⟩,x6,x7⟩,rfl,⟨⟨z6,y6⟩,z7⟩⟩
def a0e (x:Ml × Ml):Prop:=u6 x.1.rooms∧v4 x.1.log
def Y1 (x:Ml × Ml):List Arg:=[aR x.1.cs,aR x.2.cs]
def a9T (x:Ml × Ml):Bool:=decide (x.1=x.2)
noncomputable def e0F:Ent:=ent [] a0e Y1 (erB 2) a9T
theorem c1x (x y:Ml × Ml) (h:Y1 x=Y1 y):x=y:=by
 obtain ⟨l1,r1⟩:=x
 obtain ⟨l2,r2⟩:=y
 simp only [Y1,List.cons.injEq,and_true,true_and] at h
 obtain ⟨e0,e1⟩:=h
 obtain rfl:=Ml.cs_ext (j6 e0)
 obtain rfl:=Ml.cs_ext (j6 e1)
 rfl
theorem c0N {l:Ml} {r:Ml} (h:a0e (l,r)):dom a0e Y1 [(wMl l),(wMl r)]=true:=i3 (ea:=Y1) (x:=(l,r)) h
theorem c0O {l:Ml} {r:Ml} (h:a0e (l,r)):inv a0e Y1 [(wMl l),(wMl r)]=(l,r):=g9 c1x (x:=(l,r)) h
theorem f1l (l:Ml) (r:Ml):a9T (l,r)=decide (l=r):=rfl
def e0G:Nat:=14
noncomputable abbrev d1o:Func:=f14
def c6u:List (Nat × List Nat):=[(0,kq [5,7]),(1,kq [5,7,20]),(2,[16]),(3,kq [5,7,32]),(4,[16]),(5,[88]),(6,[16]),(7,[16])]
theorem e4S (l:Ml) (r:Ml) (n:Nat):body prog tb4 c6u n d1o [aR l.cs,aR r.cs]=(bif l.c.1 != r.c.1 then some ([(false,[.tr true (T.bool false)])],(nu 2)) else bif l.c.2 != r.c.2 then some ([(false,[.tr true (T.bool false)])],(nu 2)) else bif l.c.3 != r.c.3 then some ([(false,[.tr true (T.bool false)])],(nu 2)) else bif l.c.4 != r.c.4 then some ([(false,[.tr true (T.bool false)])],(nu 2)) else bif l.c.5 != r.c.5 then some ([(false,[.tr true (T.bool false)])],(nu 2)) else bif l.c.6 != r.c.6 then some ([(false,[.tr true (T.bool false)])],(nu 2)) else gd (dom b5F a1h [(0,false,[C.tr false (eL 11 Rm.cs l.2)]),(0,false,[C.tr false (eL 11 Rm.cs r.2)])])<|bif !b5G (inv b5F a1h [(0,false,[C.tr false (eL 11 Rm.cs l.2)]),(0,false,[C.tr false (eL 11 Rm.cs r.2)])]) then some ([(false,[.tr true (T.bool false)])],(nu 2)) else gd (dom b1H a1b [(0,false,[C.tr false (eL 1 b6 l.3)]),(0,false,[C.tr false (eL 1 b6 r.3)])])<|bif !b5y (inv b1H a1b [(0,false,[C.tr false (eL 1 b6 l.3)]),(0,false,[C.tr false (eL 1 b6 r.3)])]) then some ([(false,[.tr true (T.bool false)])],(nu 2)) else some ([(false,[.tr true (T.bool true)])],(nu 2))):=by kernel_rfl
theorem e0H (l:Ml) (r:Ml) (n:Nat) (h:a0e (l,r)):body prog tb4 c6u n d1o (Y1 (l,r))=some (erB 2 (a9T (l,r))):=by
 have h0:u6 l.rooms:=h.1
 have h1:v4 l.log:=h.2
 unfold Y1 a9T
 try dsimp only
 rw [e4S]
 simp only [f4,Ml.cs,w7,a3Q,a8j,e4B h0,e4C h0,e8C,d4O h1,d4P h1,d9N,c0I]
 have hxy:(l.c.chunks=r.c.chunks∧l.c.size=r.c.size∧l.c.slots=r.c.slots∧l.c.tax=r.c.tax∧l.c.slice=r.c.slice∧l.c.gens=r.c.gens∧l.rooms=r.rooms∧l.log=r.log)↔l=r:=by
  rcases l with ⟨⟨x0,x1,x2,x3,x4,x5⟩,x6,x7⟩
  rcases r with ⟨⟨y0,y1,y2,y3,y4,y5⟩,y6,y7⟩
  simp [and_assoc]
 simp only [hxy]
 by_cases e:l=r
 ·simp only [e,decide_true,Bool.not_true,cond_false]
  rfl
 ·simp only [e,decide_false,Bool.not_false,cond_true]
  rfl
theorem f1m:d8 prog e0G e0F:=g8 c1x fun x hx =>
 b9 (φ:=tb4) (a9 f1h (a9 e8B (a9 d9B b5))) d9 (kp:=c6u) (n:=0) func14 (c:=d3 d1o) (by kernel_rfl) (e0H x.1 x.2 (0) hx) (b8 (by kernel_rfl))
end Go.Mach.F
namespace Go.Mach.F
open Go Go.Mach Go.Proofs.Tryz
--=set_option maxRecDepth 100000
theorem I6 {α:Type} (c:α→Nat) {x:α}:∀ {l:List α},x∈l→c x≤cntL c l
 | y::l,h=>by
  rcases List.mem_cons.1 h with rfl | h
  ·unfold cntL;omega
  ·have:=I6 c h
   unfold cntL
   omega
theorem c4y {l:List Int} (h:(H9 l:Int)≤1048576):m6 l∧v4 l:=by
 have:=lm
 have:=bm
 unfold H9 at h
 exact ⟨by unfold m6;omega,by unfold v4;omega⟩
theorem b5K {l:List UInt8} (h:(a8u l:Int)≤1048576):o9 l∧S9 l:=by
 have:=lm
 have:=bm
 unfold a8u at h
 exact ⟨by unfold o9;omega,by unfold S9;omega⟩
theorem d5E {l:List Hd} (h:(a0Z l:Int)≤1048576):D7 l∧a0d l:=by
 have:=lm
 have:=bm
 unfold a0Z at h
 exact ⟨⟨by omega,fun _ _=>trivial⟩,⟨by omega,fun _ _=>trivial⟩⟩
theorem d5F {l:List Sf} (h:(B2 l:Int)≤1048576):D8 l∧a1e l:=by
 have:=lm
 have:=bm
 have e:B2 l=l.length+cntL z8 l:=rfl
 exact ⟨⟨by omega,fun x hx=>(b5K (l:=x.b) (by have:=I6 z8 hx;have:z8 x=a8u x.b:=rfl;omega)).1⟩,⟨by omega,fun x hx=>(b5K (l:=x.b) (by have:=I6 z8 hx;have:z8 x=a8u x.b:=rfl;omega)).2⟩⟩
theorem d5G {l:List Rm} (h:(o5 l:Int)≤1048576):ok_RmS l∧u6 l:=by
 have:=lm
 have:=bm
 have e:o5 l=l.length+cntL j3 l:=rfl
 exact ⟨⟨by omega,fun x hx=>⟨(d5E (l:=x.kids) (by have:=I6 j3 hx;have:j3 x=a0Z x.kids+B2 x.things+H9 x.tags:=rfl;omega)).1,(d5F (l:=x.things) (by have:=I6 j3 hx;have:j3 x=a0Z x.kids+B2 x.things+H9 x.tags:=rfl;omega)).1,(c4y (l:=x.tags) (by have:=I6 j3 hx;have:j3 x=a0Z x.kids+B2 x.things+H9 x.tags:=rfl;omega)).1⟩⟩,⟨by omega,fun x hx=>⟨(d5E (l:=x.kids) (by have:=I6 j3 hx;have:j3 x=a0Z x.kids+B2 x.things+H9 x.tags:=rfl;omega)).2,(d5F (l:=x.things) (by have:=I6 j3 hx;have:j3 x=a0Z x.kids+B2 x.things+H9 x.tags:=rfl;omega)).2,(c4y (l:=x.tags) (by have:=I6 j3 hx;have:j3 x=a0Z x.kids+B2 x.things+H9 x.tags:=rfl;omega)).2⟩⟩⟩
end Go.Mach.F
namespace Go.Mach.F
open Go Go.Mach Go.Proofs.Tryz Go.IntKind
--=set_option maxRecDepth 100000
def a1j (x:Ml):Prop:=ok_RmS x.rooms∧m6 x.log
def Y2 (x:Ml):List Arg:=[aR x.cs]
def b5L (x:Ml):Ml:=x
noncomputable def e0I:Ent:=ent [] a1j Y2 (fun l=>erR 1 l.cs) b5L
theorem c1y (x y:Ml) (h:Y2 x=Y2 y):x=y:=by
 simp only [Y2,List.cons.injEq,and_true,true_and] at h
 exact Ml.cs_ext (j6 h)
theorem c0P {l:Ml} (h:a1j l):dom a1j Y2 [(wMl l)]=true:=i3 (ea:=Y2) (x:=l) h
theorem c0Q {l:Ml} (h:a1j l):inv a1j Y2 [(wMl l)]=l:=g9 c1y (x:=l) h
theorem f1n (l:Ml):b5L l=l:=rfl
def e0J:Nat:=10
noncomputable abbrev d1p:Func:=f10
def c6v:List (Nat × List Nat):=[(0,kq [3,5,7,32]),(1,kq [3,5,7,32]),(2,kq [3,5,7,32]),(3,kq [3,5,7,32]),(4,kq [5,7,32]),(5,kq [5,7,32])]
theorem e4T (l:Ml) (n:Nat):body prog tb3 c6v n d1p [aR l.cs]=(gd (dom ok_RmS R3 [(0,false,[C.tr false (eL 11 Rm.cs l.2)])])<|gd ((inv ok_RmS R3 [(0,false,[C.tr false (eL 11 Rm.cs l.2)])]).length.ble (inv ok_RmS R3 [(0,false,[C.tr false (eL 11 Rm.cs l.2)])]).length&&true)<|gd (dom m6 G0 [(0,false,[C.tr false (eL 1 b6 l.3)])])<|gd ((inv m6 G0 [(0,false,[C.tr false (eL 1 b6 l.3)])]).length.ble (inv m6 G0 [(0,false,[C.tr false (eL 1 b6 l.3)])]).length&&true)<|gd ((inv ok_RmS R3 [(0,false,[C.tr false (eL 11 Rm.cs l.2)])]).length.ble (inv ok_RmS R3 [(0,false,[C.tr false (eL 11 Rm.cs l.2)])]).length&&true)<|gd ((inv m6 G0 [(0,false,[C.tr false (eL 1 b6 l.3)])]).length.ble (inv m6 G0 [(0,false,[C.tr false (eL 1 b6 l.3)])]).length&&true)<|gd ((inv ok_RmS R3 [(0,false,[C.tr false (eL 11 Rm.cs l.2)])]).length.ble (inv ok_RmS R3 [(0,false,[C.tr false (eL 11 Rm.cs l.2)])]).length&&true)<|gd ((inv m6 G0 [(0,false,[C.tr false (eL 1 b6 l.3)])]).length.ble (inv m6 G0 [(0,false,[C.tr false (eL 1 b6 l.3)])]).length&&true)<|some ([(true,[.tr true (T.int i64 l.c.1),.tr true (T.int i64 l.c.2),.tr true (T.int i64 l.c.3),.tr true (T.int i64 l.c.4),.tr true (T.int i64 l.c.5),.tr true (T.int i64 l.c.6),.tr true (.arr (11) ((inv ok_RmS R3 [(0,false,[C.tr false (eL 11 Rm.cs l.2)])]).length) ((eL 11 Rm.cs (inv ok_RmS R3 [(0,false,[C.tr false (eL 11 Rm.cs l.2)])])).fn)),.tr true (.arr (1) ((inv m6 G0 [(0,false,[C.tr false (eL 1 b6 l.3)])]).length) (atL b6 (inv m6 G0 [(0,false,[C.tr false (eL 1 b6 l.3)])])))])],[(false,[])])):=by kernel_rfl
theorem e0K (l:Ml) (n:Nat) (h:a1j l):body prog tb3 c6v n d1p (Y2 l)=some (erR 1 l.cs):=by
 have h0:ok_RmS l.rooms:=h.1
 have h1:m6 l.log:=h.2
 unfold Y2
 rw [e4T]
 simp only [f4,Ml.cs,e4z h0,e4A h0,d4M h1,d4N h1,G8]
 rfl
theorem f1o:d8 prog e0J e0I:=g8 c1y fun x hx =>
 b9 (φ:=tb3) (a9 f1g (a9 e8A (a9 d9z b5))) d9 (kp:=c6v) (n:=0) func10 (c:=d3 d1p) (by kernel_rfl) (e0K x 0 hx) (b8 (by kernel_rfl))
def f1p (l:Ml):Prop:=u6 l.rooms∧v4 l.log
def A7 (l:Ml):Nat:=o5 l.rooms+H9 l.log
def a6I (x:Ml × Int):Prop:=d7N x.1∧0≤x.2∧x.2≤LM
def a2p (x:Ml × Int):List Arg:=[aR x.1.cs,aI x.2]
def b5M (x:Ml × Int):Int:=if (A7 x.1:Int)≤x.2 then x.2 - A7 x.1 else -1
noncomputable def e0L:Ent:=ent [] a6I a2p (erI 2) b5M
theorem c1z (x y:Ml × Int) (h:a2p x=a2p y):x=y:=by
 obtain ⟨l1,k1⟩:=x
 obtain ⟨l2,k2⟩:=y
 simp only [a2p,List.cons.injEq,and_true,true_and] at h
 obtain ⟨e0,e1⟩:=h
 obtain rfl:=Ml.cs_ext (j6 e0)
 obtain rfl:=v9 e1
 rfl
theorem c0R {l:Ml} {k:Int} (h:a6I (l,k)):dom a6I a2p [(wMl l),(0,false,[C.tr false (T.int i64 k)])]=true:=i3 (ea:=a2p) (x:=(l,k)) h
theorem c0S {l:Ml} {k:Int} (h:a6I (l,k)):inv a6I a2p [(wMl l),(0,false,[C.tr false (T.int i64 k)])]=(l,k):=g9 c1z (x:=(l,k)) h
def e0M:Nat:=6
noncomputable abbrev d1q:Func:=f6
def c6w:List (Nat × List Nat):=[(0,[4,8,9]),(1,[4,8,9]),(2,[4,8,9,40]),(3,[16]),(4,[4]),(5,[4,64]),(6,[16]),(7,[16])]
theorem e4U (l:Ml) (k:Int) (n:Nat):body prog tb5 c6w n d1q [aR l.cs,aI k]=(gd (dom U4 T8 [(0,false,[C.tr false (eL 11 Rm.cs l.2)]),(0,false,[C.tr false (T.int i64 k)])])<|bif decide (a4e (inv U4 T8 [(0,false,[C.tr false (eL 11 Rm.cs l.2)]),(0,false,[C.tr false (T.int i64 k)])]) < 0) then some ([(false,[.tr true (T.int i64 (-1))])],(nu 2)) else bif decide (i64.wrap (a4e (inv U4 T8 [(0,false,[C.tr false (eL 11 Rm.cs l.2)]),(0,false,[C.tr false (T.int i64 k)])]) - (↑l.3.length:Int)) < 0) then some ([(false,[.tr true (T.int i64 (-1))])],(nu 2)) else bif decide (i64.wrap (a4e (inv U4 T8 [(0,false,[C.tr false (eL 11 Rm.cs l.2)]),(0,false,[C.tr false (T.int i64 k)])]) - (↑l.3.length:Int)) < 0) then some ([(false,[.tr true (T.int i64 (-1))])],(nu 2)) else some ([(false,[.tr true (T.int i64 (i64.wrap (a4e (inv U4 T8 [(0,false,[C.tr false (eL 11 Rm.cs l.2)]),(0,false,[C.tr false (T.int i64 k)])]) - (↑l.3.length:Int))))])],(nu 2))):=by kernel_rfl
theorem e0N (l:Ml) (k:Int) (n:Nat) (h:a6I (l,k)):body prog tb5 c6w n d1q (a2p (l,k))=some (erI 2 (b5M (l,k))):=by
 have hzm:=zm
 have hlm:=lm
 obtain ⟨hz,hk0,hk1⟩:=h
 dsimp only at hz hk0 hk1
 have z0:c0L l.rooms:=hz.1
 have z1:c4t l.log:=hz.2
 have hn:A7 l=o5 l.rooms+l.log.length:=rfl
 unfold a2p b5M
 dsimp only
 rw [e4U]
 have y0:U4 (l.rooms,k):=⟨z0,by dsimp only;omega,by dsimp only;omega⟩
 simp only [f4,Ml.cs,e4D y0,e4E y0]
 by_cases e0:(o5 l.rooms:Int)≤k
 case neg =>
  simp only [e8E e0]
  rw [if_neg (by omega)]
  simp only [decide_eq_true (show (-1:Int) < 0 by omega),cond_true]
  rfl
 simp only [e8D e0]
 simp (disch:=omega) only [decide_eq_false (show ¬ k - (o5 l.rooms:Int) < 0 by omega),cond_false,v8]
 have y1:l.log.length≤ZM:=z1
 try simp (disch:=omega) only [v8]
 by_cases e1:k - (o5 l.rooms:Int) - (l.log.length:Int) < 0
 ·rw [if_neg (by omega)]
  simp only [decide_eq_true e1,cond_true]
  rfl
 simp (disch:=omega) only [decide_eq_false e1,cond_false,v8]
 rw [if_pos (by omega),show k - (A7 l:Int)=k - (o5 l.rooms:Int) - (l.log.length:Int) by omega]
 rfl
theorem f1q:d8 prog e0M e0L:=g8 c1z fun x hx =>
 b9 (φ:=tb5) (a9 e8F (a9 d9H b5)) d9 (kp:=c6w) (n:=0) func6 (c:=d3 d1q) (by kernel_rfl) (e0N x.1 x.2 (0) hx) (b8 (by kernel_rfl))
theorem K8 {l:Ml} {k:Int} (h:(A7 l:Int)≤k):b5M (l,k)=k - A7 l:=if_pos h
theorem b9n {l:Ml} {k:Int} (h:¬ (A7 l:Int)≤k):b5M (l,k)=-1:=if_neg h
theorem f1r {l:Ml} (h:(A7 l:Int)≤1048576):a1j l∧f1p l:=⟨⟨(d5G (l:=l.rooms) (by have:A7 l=o5 l.rooms+H9 l.log:=rfl;omega)).1,(c4y (l:=l.log) (by have:A7 l=o5 l.rooms+H9 l.log:=rfl;omega)).1⟩,⟨(d5G (l:=l.rooms) (by have:A7 l=o5 l.rooms+H9 l.log:=rfl;omega)).2,(c4y (l:=l.log) (by have:A7 l=o5 l.rooms+H9 l.log:=rfl;omega)).2⟩⟩
end Go.Mach.F
namespace Go.Mach.F
open Go Go.Mach Go.Proofs.Tryz
--=set_option maxRecDepth 100000
def e0O:Nat:=17
noncomputable abbrev e0P:Func:=f17
def e8T:List (Nat × List Nat):=[(0,[4,8,9,2]),(1,[4,8,9,2]),(2,[4,2]),(3,[16,2])]
noncomputable def e0Q:Ent:=inl [1,0] prog (b3 [(d5B,d5z),(d0K,d0G)]) e8T 0 e0P
theorem f1s:d8 prog e0O e0Q:=p6 (a9 e8I (a9 d9F b5)) d9 (c:=d3 e0P) func17 (by kernel_rfl) (b8 (by kernel_rfl))
end Go.Mach.F
namespace Go.Mach.F
open Go Go.Mach Go.Proofs.Tryz Go.IntKind
--=set_option maxRecDepth 100000
def a4j (x:Ml × Int):Prop:=I0 (x.1.rooms,x.2)∧H0 (x.1.log,x.2+cntL m3 x.1.rooms)
def a1k (x:Ml × Int):List Arg:=[aR x.1.cs,aI x.2]
def b2f (x:Ml × Int):Int:=(if x.1.rooms=J4 x.1.rooms (x.2) then (if x.1.log=P2 x.1.log (x.2+cntL m3 x.1.rooms) then x.2+cntL m3 x.1.rooms+cntL p7 x.1.log else -1) else -1)
noncomputable def e0R:Ent:=ent [] a4j a1k (erI 2) b2f
theorem c1A (x y:Ml × Int) (h:a1k x=a1k y):x=y:=by
 obtain ⟨l1,k1⟩:=x
 obtain ⟨l2,k2⟩:=y
 simp only [a1k,List.cons.injEq,and_true,true_and] at h
 obtain ⟨e0,e1⟩:=h
 obtain rfl:=Ml.cs_ext (j6 e0)
 obtain rfl:=v9 e1
 rfl
theorem b5N {l:Ml} {k:Int} (h:a4j (l,k)):dom a4j a1k [(wMl l),(0,false,[C.tr false (T.int i64 k)])]=true:=i3 (ea:=a1k) (x:=(l,k)) h
theorem b5O {l:Ml} {k:Int} (h:a4j (l,k)):inv a4j a1k [(wMl l),(0,false,[C.tr false (T.int i64 k)])]=(l,k):=g9 c1A (x:=(l,k)) h
def e0S:Nat:=20
noncomputable abbrev d1r:Func:=f20
def c6x:List (Nat × List Nat):=[(0,[4,8,9]),(1,[4,8,9]),(2,[4,8,9,40]),(3,[16]),(4,[4]),(5,[4,64]),(6,[16]),(7,[16])]
noncomputable abbrev tb6:Sems:=b3 [(d5A,d5y),(d0J,d0F)]
theorem e4V (l:Ml) (k:Int) (n:Nat):body prog tb6 c6x n d1r [aR l.cs,aI k]=(d7 I0 a2o (b1m) [(0,false,[C.tr false (eL 11 Rm.cs l.2)]),(0,false,[C.tr false (T.int i64 k)])] fun (r1:Int)=>bif decide (r1 < 0) then some ([(false,[.tr true (T.int i64 (-1))])],(nu 2)) else d7 H0 a3e (b1I) [(0,false,[C.tr false (eL 1 b6 l.3)]),(0,false,[C.tr false (T.int i64 r1)])] fun (r2:Int)=>bif decide (r2 < 0) then some ([(false,[.tr true (T.int i64 (-1))])],(nu 2)) else some ([(false,[.tr true (T.int i64 r2)])],(nu 2))):=by kernel_rfl
theorem e0T (l:Ml) (k:Int) (n:Nat) (h:a4j (l,k)):body prog tb6 c6x n d1r (a1k (l,k))=some (erI 2 (b2f (l,k))):=by
 have hbm:=bm
 have y0:I0 (l.rooms,k):=h.1
 have z0:=y0.2.1
 have w0:=y0.2.2
 dsimp only at z0 w0
 have y1:H0 (l.log,k+cntL m3 l.rooms):=h.2
 have z1:=y1.2.1
 have w1:=y1.2.2
 dsimp only at z1 w1
 unfold a1k b2f
 try dsimp only
 rw [e4V]
 simp only [f4,l7,Ml.cs]
 rw [b4 (e4H y0) (e4I y0)]
 by_cases e0:l.rooms=J4 l.rooms (k)
 case neg =>
  simp only [e8K e0,if_neg e0,decide_eq_true (show (-1:Int) < 0 by omega),cond_true]
  rfl
 rw [e8J e0,if_pos e0]
 simp only [f4,decide_eq_false (show ¬ k+(cntL m3 l.rooms:Int) < 0 by omega),cond_false]
 rw [b4 (d4Q y1) (d4R y1)]
 by_cases e1:l.log=P2 l.log (k+cntL m3 l.rooms)
 case neg =>
  simp only [d9P e1,if_neg e1,decide_eq_true (show (-1:Int) < 0 by omega),cond_true]
  rfl
 rw [d9O e1,if_pos e1]
 simp only [f4,decide_eq_false (show ¬ k+cntL m3 l.rooms+(cntL p7 l.log:Int) < 0 by omega),cond_false]
 try rfl
theorem f1t:d8 prog e0S e0R:=g8 c1A fun x hx =>
 b9 (φ:=tb6) (a9 e8H (a9 d9D b5)) d9 (kp:=c6x) (n:=0) func20 (c:=d3 d1r) (by kernel_rfl) (e0T x.1 x.2 (0) hx) (b8 (by kernel_rfl))
end Go.Mach.F
namespace Go.Mach.F
open Go Go.Mach Go.Proofs.Tryz Go.IntKind
--=set_option maxRecDepth 100000
def e0U:Nat:=94
noncomputable abbrev e0V:Func:=f94
def e8U:List (Nat × List Nat):=[(0,kq [5,7]),(1,kq [5,7,20]),(2,[16]),(3,kq [5,7,30]),(4,[16]),(5,[80]),(6,[16]),(7,[16])]
noncomputable def e0W:Ent:=inl [] prog (b3 [(a2f,a2g)]) e8U 0 e0V
theorem e0X:d8 prog e0U e0W:=p6 (a9 b9k b5) d9 (c:=d3 e0V) func94 (by kernel_rfl) (b8 (by kernel_rfl))
def e4W (x:An):Prop:=b5z x.b
theorem An.cs_inj (x y:An) (h:∀ k,x.cs.getD k .hole=y.cs.getD k .hole):x=y:=by
 have h0:=h 0;have h1:=h 1;have h2:=h 2;have h3:=h 3;have h4:=h 4;have h5:=h 5;have h6:=h 6;have h7:=h 7;have h8:=h 8;have h9:=h 9;have h10:=h 10
 rcases x with ⟨x0,⟨x1,x2⟩,⟨⟨x3,x4⟩,x5,x6⟩,x7,x8,x9,x10⟩
 rcases y with ⟨y0,⟨y1,y2⟩,⟨⟨y3,y4⟩,y5,y6⟩,y7,y8,y9,y10⟩
 simp only [An.cs,List.getD_cons_zero,List.getD_cons_succ,T.int.injEq,T.bool.injEq,true_and] at h0 h1 h2 h3 h4 h5 h6 h7 h8 h9 h10
 replace h7:=P1 h7
 subst h0;subst h1;subst h2;subst h3;subst h4;subst h5;subst h6;subst h7;subst h8;subst h9;subst h10
 rfl
theorem An.cs_ext {x y:An} (h:x.cs=y.cs):x=y:=An.cs_inj x y fun k=>by rw [h]
abbrev shAn:List Sh:=[.int .i64,.int .i64,.int .i64,.int .i64,.int .i64,.int .i64,.int .i64,.arr [.int .u8],.int .i64,.int .i64,.int .i64]
theorem f2M {ts:List T} (hh:a5C ts shAn):∃ x:An,ts=x.cs∧e4W x:=by
 obtain ⟨t0,ts,rfl,h0,hh⟩:=m5 hh
 obtain ⟨t1,ts,rfl,h1,hh⟩:=m5 hh
 obtain ⟨t2,ts,rfl,h2,hh⟩:=m5 hh
 obtain ⟨t3,ts,rfl,h3,hh⟩:=m5 hh
 obtain ⟨t4,ts,rfl,h4,hh⟩:=m5 hh
 obtain ⟨t5,ts,rfl,h5,hh⟩:=m5 hh
 obtain ⟨t6,ts,rfl,h6,hh⟩:=m5 hh
 obtain ⟨t7,ts,rfl,h7,hh⟩:=m5 hh
 obtain ⟨t8,ts,rfl,h8,hh⟩:=m5 hh
 obtain ⟨t9,ts,rfl,h9,hh⟩:=m5 hh
 obtain ⟨t10,ts,rfl,h10,hh⟩:=m5 hh
 obtain rfl:=a6E hh
 obtain ⟨x0,rfl,_⟩:=w8 h0
 obtain ⟨x1,rfl,_⟩:=w8 h1
 obtain ⟨x2,rfl,_⟩:=w8 h2
 obtain ⟨x3,rfl,_⟩:=w8 h3
 obtain ⟨x4,rfl,_⟩:=w8 h4
 obtain ⟨x5,rfl,_⟩:=w8 h5
 obtain ⟨x6,rfl,_⟩:=w8 h6
 obtain ⟨x7,rfl,z7⟩:=d7L h7
 obtain ⟨x8,rfl,_⟩:=w8 h8
 obtain ⟨x9,rfl,_⟩:=w8 h9
 obtain ⟨x10,rfl,_⟩:=w8 h10
 exact ⟨⟨x0,⟨x1,x2⟩,⟨⟨x3,x4⟩,x5,x6⟩,x7,x8,x9,x10⟩,rfl,z7⟩
noncomputable abbrev tb7:Sems:=b3 [(a3f,a3g),(e0v,e0x),(d0P,d0N)]
noncomputable abbrev tb8:Sems:=b3 [(a2f,a2g),(e0U,e0W),(d0R,d0O)]
def d7O (x:Op1):Prop:=b5z x.b
theorem Op1.cs_inj (x y:Op1) (h:∀ k,x.cs.getD k .hole=y.cs.getD k .hole):x=y:=by
 have h0:=h 0;have h1:=h 1;have h2:=h 2;have h3:=h 3;have h4:=h 4;have h5:=h 5;have h6:=h 6;have h7:=h 7;have h8:=h 8;have h9:=h 9
 rcases x with ⟨x0,⟨x1,x2⟩,⟨⟨x3,x4⟩,x5,x6⟩,x7,x8,x9⟩
 rcases y with ⟨y0,⟨y1,y2⟩,⟨⟨y3,y4⟩,y5,y6⟩,y7,y8,y9⟩
 simp only [Op1.cs,List.getD_cons_zero,List.getD_cons_succ,T.int.injEq,T.bool.injEq,true_and] at h0 h1 h2 h3 h4 h5 h6 h7 h8 h9
 replace h9:=P1 h9
 subst h0;subst h1;subst h2;subst h3;subst h4;subst h5;subst h6;subst h7;subst h8;subst h9
 rfl
theorem Op1.cs_ext {x y:Op1} (h:x.cs=y.cs):x=y:=Op1.cs_inj x y fun k=>by rw [h]
abbrev shOp1:List Sh:=[.int .i64,.int .i64,.int .i64,.int .i64,.int .i64,.int .i64,.int .i64,.int .i64,.int .i64,.arr [.int .u8]]
theorem f1u {ts:List T} (hh:a5C ts shOp1):∃ x:Op1,ts=x.cs∧d7O x:=by
 obtain ⟨t0,ts,rfl,h0,hh⟩:=m5 hh
 obtain ⟨t1,ts,rfl,h1,hh⟩:=m5 hh
 obtain ⟨t2,ts,rfl,h2,hh⟩:=m5 hh
 obtain ⟨t3,ts,rfl,h3,hh⟩:=m5 hh
 obtain ⟨t4,ts,rfl,h4,hh⟩:=m5 hh
 obtain ⟨t5,ts,rfl,h5,hh⟩:=m5 hh
 obtain ⟨t6,ts,rfl,h6,hh⟩:=m5 hh
 obtain ⟨t7,ts,rfl,h7,hh⟩:=m5 hh
 obtain ⟨t8,ts,rfl,h8,hh⟩:=m5 hh
 obtain ⟨t9,ts,rfl,h9,hh⟩:=m5 hh
 obtain rfl:=a6E hh
 obtain ⟨x0,rfl,_⟩:=w8 h0
 obtain ⟨x1,rfl,_⟩:=w8 h1
 obtain ⟨x2,rfl,_⟩:=w8 h2
 obtain ⟨x3,rfl,_⟩:=w8 h3
 obtain ⟨x4,rfl,_⟩:=w8 h4
 obtain ⟨x5,rfl,_⟩:=w8 h5
 obtain ⟨x6,rfl,_⟩:=w8 h6
 obtain ⟨x7,rfl,_⟩:=w8 h7
 obtain ⟨x8,rfl,_⟩:=w8 h8
 obtain ⟨x9,rfl,z9⟩:=d7L h9
 exact ⟨⟨x0,⟨x1,x2⟩,⟨⟨x3,x4⟩,x5,x6⟩,x7,x8,x9⟩,rfl,z9⟩
end Go.Mach.F
namespace Go.Mach
open Go Go.RowKit Go.Proofs
section
variable {P:Program}
/-- Cells of a block, some of them turned. -/
def spl (cur:Array Value) (o:Nat) (vs:List Value):Array Value:=(cur.toList.take o ++ vs ++ cur.toList.drop (o+vs.length)).toArray
theorem a0N {cur:Array Value} {o:Nat} {vs:List Value} (h:o+vs.length≤cur.size):(spl cur o vs).size=cur.size:=by
 simp [spl]
 omega
theorem a4k {cur:Array Value} {o:Nat} {vs:List Value} (h:o+vs.length≤cur.size) (j:Nat):(spl cur o vs)[j]?=if j < o then cur[j]? else if j < o+vs.length then vs[j - o]? else cur[j]?:=by
 have h1:(cur.toList.take o).length=o:=by simp;omega
 unfold spl
 rw [List.getElem?_toArray,List.append_assoc]
 by_cases a:j < o
 ·rw [if_pos a,List.getElem?_append_left (by omega),List.getElem?_take,if_pos a]
  simp
 ·rw [if_neg a,List.getElem?_append_right (by omega),h1]
  by_cases b:j < o+vs.length
  ·rw [if_pos b,List.getElem?_append_left (by omega)]
  ·rw [if_neg b,List.getElem?_append_right (by omega),List.getElem?_drop]
   simp
   congr 1
   omega
theorem a1B (w:World) (dT sT ty e e':TypeId) (sz:Nat) (hu:P.underlying dT=some (.slice e)) (hs:(P.info? e).map (·.size)=some sz)
  (g o dLen dCap:Nat) (cur:Array Value) (hg:w.heap[g]?=some (.cells cur e' (0,0))) (a:Addr) (sLen sCap k:Nat) (vs:List Value) (hk:Nat.min sLen dLen=k) (hl:vs.length=k*sz)
  (hsrc:∀ j v,vs[j]?=some v→w.cell? (a.add j)=some v) (hfit:o+vs.length≤cur.size) (h1:∀ v∈vs,v.oneCell'=true) :
  (Builtin.copy_ #[dT,sT] ty #[.slice (some ⟨g,o,none⟩) dLen dCap,.slice (some a) sLen sCap]).run P w=.ok (goInt k) (w.setRow g (spl cur o vs)):=by
 have hld:=run_firstCells_some (P:=P) w sz k a sLen sCap vs hl hsrc
 have hst:=run_storeCells_at P g o e' vs 0 cur w hg (by simpa using hfit) h1
 simp only [Nat.add_zero] at hst
 cases hq:P.info? e with
 | none=>simp [hq] at hs
 | some i =>
  have hi:i.size=sz:=by simpa [hq] using hs
  simp [Builtin.copy_,l6 hu,Builtin.lenOf,sizeOf,typeInfo,hq,hi,hk,hld,hst,spl]
theorem b9o (w:World) {o:Oper} {a:Act} {K:Act→World→Prop} {Q:Exit→Act→World→Prop} (d s:Operand) (t t':TypeId)
  (ho:o.op=.call { callee:=.builtin .copy,args:=#[d,s],argTypes:=#[t,t'] }) (v u:Value) (hd:a.eval d=v) (hs:a.eval s=u) {v':Value} {w':World}
  (hr:(Builtin.copy_ #[t,t'] o.type #[v,u]).run P w=.ok v' w') (h:K (a.put o.dst v') w'):o.wp P a w K Q:=by
 unfold Oper.wp execOp
 simp only [ho,resolve,invoke,builtin,Sem.run_bind,Sem.run_pure,Result.andThen_ok,List.map_toArray,List.map_cons,List.map_nil,hd,hs,hr]
 exact h
theorem a1R (w:World) {ops:Array Oper} {rest:List Oper} {o:Oper} {a:Act} {Q:Exit→Act→World→Prop} (hgd:o.guard=none) (d s:Operand) (t t':TypeId)
  (ho:o.op=.call { callee:=.builtin .copy,args:=#[d,s],argTypes:=#[t,t'] }) (v u:Value) (hd:a.eval d=v) (hs:a.eval s=u) {v':Value} {w':World}
  (hr:(Builtin.copy_ #[t,t'] o.type #[v,u]).run P w=.ok v' w') (h:wpList P ops Q rest (a.put o.dst v') w'):wpList P ops Q (o::rest) a w :=
 wpList_plain hgd fun _ hK=>b9o w d s t t' ho v u hd hs hr (hK _ _ h)
theorem a4l {ops:Array Oper} {o:Oper} {a:Act} {w:World} {K:Act→World→Prop} {Q:Exit→Act→World→Prop} {E:Prop}
  (hg:o.guard=none) (d x:Operand) (dT sT:TypeId) (hop:o.op=Op.call { callee:=Callee.builtin Builtin.copy,args:=#[d,x],argTypes:=#[dT,sT] })
  (v u:Value) (hd:a.eval d=v) (hx:a.eval x=u) {v':Value} {w':World} (hr:(Builtin.copy_ #[dT,sT] o.type #[v,u]).run P w=.ok v' w') (hK:K (a.put o.dst v') w') :
  if Region.wanted o (yielded ops a.tmps)=true then Oper.wp P o a w K Q else E:=by
 have hw:Region.wanted o (yielded ops a.tmps)=true:=by simp [Region.wanted,hg]
 rw [if_pos hw]
 exact b9o w d x dT sT hop v u hd hx hr hK
theorem c6y (w:World) {o:Oper} {a:Act} {K:Act→World→Prop} {Q:Exit→Act→World→Prop} (d s:Operand) (t t':TypeId)
  (ho:o.op=.call { callee:=.builtin .append,args:=#[d,s],argTypes:=#[t,t'] }) (v u:Value) (hd:a.eval d=v) (hs:a.eval s=u) {v':Value} {w':World}
  (hr:(Builtin.append_ #[t,t'] o.type #[v,u]).run P w=.ok v' w') (h:K (a.put o.dst v') w'):o.wp P a w K Q:=by
 unfold Oper.wp execOp
 simp only [ho,resolve,invoke,builtin,Sem.run_bind,Sem.run_pure,Result.andThen_ok,List.map_toArray,List.map_cons,List.map_nil,hd,hs,hr]
 exact h
theorem D9 (w:World) {ops:Array Oper} {rest:List Oper} {o:Oper} {a:Act} {Q:Exit→Act→World→Prop} (hgd:o.guard=none) (d s:Operand) (t t':TypeId)
  (ho:o.op=.call { callee:=.builtin .append,args:=#[d,s],argTypes:=#[t,t'] }) (v u:Value) (hd:a.eval d=v) (hs:a.eval s=u) {v':Value} {w':World}
  (hr:(Builtin.append_ #[t,t'] o.type #[v,u]).run P w=.ok v' w') (h:wpList P ops Q rest (a.put o.dst v') w'):wpList P ops Q (o::rest) a w :=
 wpList_plain hgd fun _ hK=>c6y w d s t t' ho v u hd hs hr (hK _ _ h)
/-- A slice's cells: those of its elements are told. -/
structure RowAt (w:World) (b off n c sz:Nat) (cs:List Value):Prop where
 row:∃ CS e,w.heap[b]?=some (.cells CS e (0,0))∧off+c*sz≤CS.size∧∀ (j:Nat) v,cs[j]?=some v→CS[off+j]?=some v
 cap:n≤c
 len:cs.length=n*sz
 one:∀ v∈cs,v.oneCell'=true
/-- A function has handed over a slice with these cells, in a block of its own argument or in a new one. -/
def G3 (w w':World) (own:Nat→Prop) (e:Ending) (n sz:Nat) (cs:List Value):Prop :=
 ∃ b off c,e=.returned (.slice (some ⟨b,off,none⟩) n c)∧RowAt w' b off n c sz cs∧(own b∨w.heap.size≤b)∧b < w'.heap.size ∧
  w'.os=w.os∧w'.tape=w.tape∧w'.output=w.output∧w.heap.size≤w'.heap.size∧∀ x,¬ own x→x < w.heap.size→w'.heap[x]?=w.heap[x]?
theorem a8G {w:World} {b:Nat} {o:Obj} (h:w.heap[b]?=some o):b < w.heap.size:=by
 rcases Nat.lt_or_ge b w.heap.size with h1 | h1
 ·exact h1
 ·rw [Array.getElem?_eq_none h1] at h;cases h
theorem G3.same {w w':World} {b off n c sz:Nat} {cs:List Value} {CS:Array Value} {e:TypeId} (hw:∀ x,x≠b→w'.heap[x]?=w.heap[x]?) (hsz:w'.heap.size=w.heap.size) (ho:w'.os=w.os) (ht:w'.tape=w.tape) (hp:w'.output=w.output)
  (hb:w'.heap[b]?=some (.cells CS e (0,0))) (hf:off+c*sz≤CS.size) (hc:∀ (j:Nat) v,cs[j]?=some v→CS[off+j]?=some v) (hn:n≤c) (hl:cs.length=n*sz) (h1:∀ v∈cs,v.oneCell'=true) :
  G3 w w' (·=b) (.returned (.slice (some ⟨b,off,none⟩) n c)) n sz cs :=
 ⟨b,off,c,rfl,⟨⟨CS,e,hb,hf,hc⟩,hn,hl,h1⟩,.inl rfl,a8G hb,ho,ht,hp,Nat.le_of_eq hsz.symm,fun x hx _=>hw x hx⟩
theorem G3.new {w w':World} {own:Nat→Prop} {n c sz:Nat} {cs:List Value} {CS:Array Value} {e:TypeId} (hw:∀ x,x < w.heap.size→w'.heap[x]?=w.heap[x]?) (ho:w'.os=w.os) (ht:w'.tape=w.tape) (hp:w'.output=w.output)
  (hb:w'.heap[w.heap.size]?=some (.cells CS e (0,0))) (hf:c*sz≤CS.size) (hc:∀ (j:Nat) v,cs[j]?=some v→CS[j]?=some v) (hn:n≤c) (hl:cs.length=n*sz) (h1:∀ v∈cs,v.oneCell'=true) :
  G3 w w' own (.returned (.slice (some ⟨w.heap.size,0,none⟩) n c)) n sz cs :=
 ⟨_,0,c,rfl,⟨⟨CS,e,hb,by omega,fun j v hj=>by rw [Nat.zero_add];exact hc j v hj⟩,hn,hl,h1⟩,.inr (Nat.le_refl _),a8G hb,ho,ht,hp,Nat.le_of_lt (a8G hb),fun x _ hx=>hw x hx⟩
theorem c7T {CS:Array Value} {cs vs:List Value} {off i n sz:Nat} (h1:off+(i+1)*sz+(cs.drop (i*sz)).length≤CS.size) (h2:off+i*sz+vs.length≤(spl CS (off+(i+1)*sz) (cs.drop (i*sz))).size)
  (hi:i < n) (hcl:cs.length=n*sz) (hvl:vs.length=1*sz) (hcs:∀ (j:Nat) v,cs[j]?=some v→CS[off+j]?=some v) :
  ∀ (j:Nat) v,(cs.take (i*sz) ++ vs ++ cs.drop (i*sz))[j]?=some v→(spl (spl CS (off+(i+1)*sz) (cs.drop (i*sz))) (off+i*sz) vs)[off+j]?=some v:=by
 intro j v hj
 have hle:i*sz≤n*sz:=Nat.mul_le_mul_right _ (by omega)
 have hm:(i+1)*sz=i*sz+sz:=by rw [Nat.add_mul,Nat.one_mul]
 have ht:(cs.take (i*sz)).length=i*sz:=by rw [List.length_take,hcl];omega
 rw [a4k h2,a4k h1,hm]
 rw [List.append_assoc] at hj
 by_cases a:j < i*sz
 ·rw [List.getElem?_append_left (by omega),List.getElem?_take,if_pos a] at hj
  rw [if_pos (by omega),if_pos (by omega)]
  exact hcs j v hj
 ·rw [List.getElem?_append_right (by omega),ht] at hj
  rw [if_neg (by omega)]
  by_cases b:j < i*sz+vs.length
  ·rw [List.getElem?_append_left (by omega)] at hj
   rw [if_pos (by omega),show off+j - (off+i*sz)=j - i*sz by omega]
   exact hj
  ·rw [List.getElem?_append_right (by omega)] at hj
   have hlt:=(List.getElem?_eq_some_iff.1 hj).1
   rw [if_neg (by omega),if_neg (by omega),if_pos (by omega),show off+j - (off+(i*sz+sz))=j - i*sz - vs.length by omega]
   exact hj
theorem c7U {CS:Array Value} {cs vs:List Value} {off n sz:Nat} (h:off+n*sz+vs.length≤CS.size) (hcl:cs.length=n*sz) (hcs:∀ (j:Nat) v,cs[j]?=some v→CS[off+j]?=some v) :
  ∀ (j:Nat) v,(cs ++ vs)[j]?=some v→(spl CS (off+n*sz) vs)[off+j]?=some v:=by
 intro j v hj
 rw [a4k h]
 by_cases a:j < n*sz
 ·rw [List.getElem?_append_left (by omega)] at hj
  rw [if_pos (by omega)]
  exact hcs j v hj
 ·rw [List.getElem?_append_right (by omega)] at hj
  have hlt:=(List.getElem?_eq_some_iff.1 hj).1
  rw [if_neg (by omega),if_pos (by omega),show off+j - (off+n*sz)=j - cs.length by omega]
  exact hj
theorem c4z {R:Array Value} {cs vs:List Value} {i n sz:Nat} (h1:i*sz+vs.length≤R.size) (h2:(i+1)*sz+(cs.drop (i*sz)).length≤(spl R (i*sz) vs).size)
  (hi:i < n) (hcl:cs.length=n*sz) (hvl:vs.length=1*sz) (hR:∀ (j:Nat) v,(cs.take (i*sz))[j]?=some v→R[j]?=some v) :
  ∀ (j:Nat) v,(cs.take (i*sz) ++ vs ++ cs.drop (i*sz))[j]?=some v→(spl (spl R (i*sz) vs) ((i+1)*sz) (cs.drop (i*sz)))[j]?=some v:=by
 intro j v hj
 have hle:i*sz≤n*sz:=Nat.mul_le_mul_right _ (by omega)
 have hm:(i+1)*sz=i*sz+sz:=by rw [Nat.add_mul,Nat.one_mul]
 have ht:(cs.take (i*sz)).length=i*sz:=by rw [List.length_take,hcl];omega
 rw [a4k h2,a4k h1,hm]
 rw [List.append_assoc] at hj
 by_cases a:j < i*sz
 ·rw [List.getElem?_append_left (by omega)] at hj
  rw [if_pos (by omega),if_pos (by omega)]
  exact hR j v hj
 ·rw [List.getElem?_append_right (by omega),ht] at hj
  by_cases b:j < i*sz+vs.length
  ·rw [List.getElem?_append_left (by omega)] at hj
   rw [if_pos (by omega),if_neg a,if_pos (by omega)]
   exact hj
  ·rw [List.getElem?_append_right (by omega)] at hj
   have hlt:=(List.getElem?_eq_some_iff.1 hj).1
   rw [if_neg (by omega),if_pos (by omega),show j - (i*sz+sz)=j - i*sz - vs.length by omega]
   exact hj
theorem a8H (w:World) (need old:Nat) (e:TypeId):need≤grownCap w need old e:=grownCap_ge w need old e
/-- A row among rows. -/
def a7G (i:Nat) (F G:Nat→Nat→T) (j k:Nat):T:=if j < i then F j k else if j=i then G 0 k else F (j - 1) k
/-- Where the rows' arrays lie. -/
def b4L (i:Nat) (x:Option (Addr × Nat)) (γ:Nat→Gh):Nat→Gh
 | 0=>fun p=>match p with
  | [0,0]=>x
  | 0::0::j::k::q=>if j < i then γ 0 (0::0::j::k::q) else if j=i then γ 2 (0::0::0::k::q) else γ 0 (0::0::(j - 1)::k::q)
  | _=>none
 | _+1=>noG
theorem b9p {i:Nat} {x:Option (Addr × Nat)} {γ:Nat→Gh} {a:Nat} {p:Path} {y:Addr × Nat} (h:b4L i x γ a p=some y) :
  a=0∧((p=[0,0]∧x=some y)∨∃ j k q,p=0::0::j::k::q∧((j < i∧γ 0 (0::0::j::k::q)=some y)∨(j=i∧γ 2 (0::0::0::k::q)=some y)∨(i < j∧γ 0 (0::0::(j - 1)::k::q)=some y))):=by
 cases a with
 | succ a=>cases h
 | zero =>
  refine ⟨rfl,?_⟩
  unfold b4L at h
  dsimp only at h
  split at h
  ·exact .inl ⟨rfl,h⟩
  ·rename_i j k q
   refine .inr ⟨j,k,q,rfl,?_⟩
   split at h
   ·exact .inl ⟨‹_›,h⟩
   ·split at h
    ·exact .inr (.inl ⟨‹_›,h⟩)
    ·exact .inr (.inr ⟨by omega,h⟩)
  ·cases h
theorem d1s {w:World} {m n:Nat} {F:Nat→Nat→T} {g:Gh} {v:Value} (h:RelOwn w (.arr m n F) g v):(g []=none∧n=0∧v=.slice none 0 0) ∨
  ∃ b off c cs,g []=some (⟨b,off,none⟩,c)∧v=.slice (some ⟨b,off,none⟩) n c∧0 < m∧RowAt w b off n c m cs∧∀ (x:Nat) u,cs[x]?=some u→RelOwn w (F (x / m) (x % m)) (fun q=>g ((x / m)::(x % m)::q)) u:=by
 rcases h with h | ⟨b,off,c,CS,e,hg,hv,⟨hn,hm⟩,hb,hf,hc⟩
 ·exact .inl h
 ·refine .inr ?_
  obtain ⟨cs,hl,hh⟩:=b5r (Q:=fun x u=>CS[off+x]?=some u∧RelOwn w (F (x / m) (x % m)) (fun q=>g ((x / m)::(x % m)::q)) u) (n*m) (fun x hx=>by
   obtain ⟨h1,h2,h3⟩:=b3E hm hx
   obtain ⟨u,hu,hr⟩:=hc _ h1 _ h2
   rw [h3] at hu
   exact ⟨u,hu,hr⟩)
  exact ⟨b,off,c,cs,hg,hv,hm,⟨⟨CS,e,hb,hf,fun j v hj=>(hh j v hj).1⟩,hn,hl,fun v hv=>by
   obtain ⟨j,hj⟩:=List.getElem?_of_mem hv
   exact (hh j v hj).2.one⟩,fun x u hx=>(hh x u hx).2⟩
theorem f1v {w:World} {m n b off c:Nat} {F:Nat→Nat→T} {g:Gh} {cs:List Value} (hg:g []=some (⟨b,off,none⟩,c)) (hm:0 < m) (hr:RowAt w b off n c m cs)
  (hh:∀ j,j < n→∀ k,k < m→∀ u,cs[j*m+k]?=some u→RelOwn w (F j k) (fun q=>g (j::k::q)) u):RelOwn w (.arr m n F) g (.slice (some ⟨b,off,none⟩) n c):=by
 obtain ⟨⟨CS,e,hb,hf,hc⟩,hn,hl,_⟩:=hr
 refine .inr ⟨b,off,c,CS,e,hg,rfl,⟨hn,hm⟩,hb,hf,fun j hj k hk=>?_⟩
 have hlt:j*m+k < cs.length:=by rw [hl];exact a4J hj hk
 exact ⟨cs[j*m+k],hc _ _ (List.getElem?_eq_getElem hlt),hh j hj k hk _ (List.getElem?_eq_getElem hlt)⟩
theorem b9q {f : FuncId} {m n i : Nat} {F Gt : Nat → Nat → T} (hfn : ∃ fn, P.funcs[f]? = some fn ∧ fn.body.isSome = true ∧ fn.name ≠ "runtime.NumGoroutine") (hi : i ≤ n)
  (raw:∀ (w:World) (b off c vb voff vc:Nat) (cs vs:List Value),RowAt w b off n c m cs→RowAt w vb voff 1 vc m vs→vb≠b →
   Calls P f #[.slice (some ⟨b,off,none⟩) n c,.int .i64 i,.slice (some ⟨vb,voff,none⟩) 1 vc] w fun e w'=>G3 w w' (·=b) e (n+1) m (cs.take (i*m) ++ vs ++ cs.drop (i*m)))
  (raw0:n=0→∀ (w:World) (vb voff vc:Nat) (vs:List Value),RowAt w vb voff 1 vc m vs →
   Calls P f #[.slice none 0 0,.int .i64 0,.slice (some ⟨vb,voff,none⟩) 1 vc] w fun e w'=>G3 w w' (fun _=>False) e 1 m vs) :
  a1N P f [(3,(false,[.tr true (.arr m n F)])),(0,(false,[.tr false (.int .i64 i)])),(3,(false,[.tr true (.arr m 1 Gt)]))] [(false,[.tr true (.arr m (n+1) (a7G i F Gt))])] [(false,[]),(false,[]),(false,[])]:=by
 refine ⟨hfn,fun w vals γ hA=>?_⟩
 obtain ⟨u0,hu0,ha0⟩:=hA.arg 0 _ rfl
 obtain ⟨u1,hu1,ha1⟩:=hA.arg 1 _ rfl
 obtain ⟨u2,hu2,ha2⟩:=hA.arg 2 _ rfl
 have hvals:vals=#[u0,u1,u2]:=by
  have hs:=hA.size
  simp only [List.length_cons,List.length_nil] at hs
  refine Array.ext (by simpa using hs) fun k h1 h2=>?_
  have h2':k < 3:=by simpa using h2
  rw [← Option.some_inj,← Array.getElem?_eq_getElem h1]
  rcases k with _ | _ | _ | k
  ·simpa using hu0
  ·simpa using hu1
  ·simpa using hu2
  ·omega
 have e1:u1=.int .i64 i:=by
  have h:a7v w (Dof γ) (false,[.tr false (.int .i64 i)]) u1:=ha1
  exact h gg0 vv0
 have hr0:RelOwn w (.arr m n F) (fun q=>γ 0 (0::0::q)) u0:=by
  have h:U9 _∧∀ E G V,i7 E G V w (fun k q=>γ 0 (0::k::q)) (false,[.tr true (.arr m n F)]) u0:=ha0
  exact h.2 (A4 w (Dof γ)) gg0 vv0
 have hr2:RelOwn w (.arr m 1 Gt) (fun q=>γ 2 (0::0::q)) u2:=by
  have h:U9 _∧∀ E G V,i7 E G V w (fun k q=>γ 2 (0::k::q)) (false,[.tr true (.arr m 1 Gt)]) u2:=ha2
  exact h.2 (A4 w (Dof γ)) gg0 vv0
 rcases d1s hr2 with ⟨_,h0,_⟩ | ⟨vb,voff,vc,vs,hg2,rfl,hm,hv,hvo⟩
 ·cases h0
 subst e1
 -- the arrays of the result
 have close:∀ (own:Nat→Prop) (cs:List Value) (e:Ending) (w':World),cs.length=n*m→(∀ (x:Nat) u,cs[x]?=some u→RelOwn w (F (x / m) (x % m)) (fun q=>γ 0 (0::0::(x / m)::(x % m)::q)) u) →
   (∀ x,own x→∃ c:Nat × Nat,γ 0 [0,0]=some (⟨x,c.1,none⟩,c.2))→G3 w w' own e (n+1) m (cs.take (i*m) ++ vs ++ cs.drop (i*m)) →
   ∃ v δ,e=.returned v∧GrewD w w' (Dof γ)∧ResX w w' γ [(3,(false,[.tr true (.arr m n F)])),(0,(false,[.tr false (.int .i64 i)])),(3,(false,[.tr true (.arr m 1 Gt)]))] vals [(false,[.tr true (.arr m (n+1) (a7G i F Gt))])] [(false,[]),(false,[]),(false,[])] v δ:=by
  rintro own cs e w' hcl hco hown ⟨b,off,c,rfl,hR,hob,hbl,hos,htp,hou,hsz,hold⟩
  have hD:∀ x,own x→Dof γ x:=fun x hx=>by
   obtain ⟨c,hc⟩:=hown x hx
   exact ⟨0,_,_,_,hc,rfl⟩
  have hdeep:∀ a p ad c',γ a p=some (ad,c')→p≠[0,0]→ad.block≠b∧¬ own ad.block:=fun a p ad c' hg hp=>by
   have hno:¬ own ad.block:=fun ho=>by
    obtain ⟨c2,hc2⟩:=hown _ ho
    exact hp (hA.inj _ _ _ _ _ _ _ _ hg hc2 rfl).2
   refine ⟨fun e=>?_,hno⟩
   rcases hob with h | h
   ·exact hno (e ▸ h)
   ·have:=hA.rng _ _ _ _ hg
    omega
  have hkeep:∀ a p ad c',γ a p=some (ad,c')→p≠[0,0]→w'.heap[ad.block]?=w.heap[ad.block]?:=fun a p ad c' hg hp=>hold _ (hdeep a p ad c' hg hp).2 (hA.rng _ _ _ _ hg)
  refine ⟨_,b4L i (some (⟨b,off,none⟩,c)) γ,rfl,⟨hos,htp,hou,hsz,fun x hx hnd=>hold x (fun ho=>hnd (hD x ho)) hx⟩,⟨?_,?_,?_,?_⟩⟩
  ·intro a p a' p' ad c1 ad' c1' h h' hb
   obtain ⟨ea,k1⟩:=b9p h
   obtain ⟨ea',k1'⟩:=b9p h'
   clear h h'
   refine ⟨ea.trans ea'.symm,?_⟩
   clear ea ea'
   have h:=k1
   have h':=k1'
   have a8b:∀ {j k q y},((j < i∧γ 0 (0::0::j::k::q)=some y)∨(j=i∧γ 2 (0::0::0::k::q)=some y)∨(i < j∧γ 0 (0::0::(j - 1)::k::q)=some y))→y.1.block≠b:=fun {j k q y} h=>by
    rcases h with h | h | h
    ·exact (hdeep _ _ y.1 y.2 h.2 (by simp)).1
    ·exact (hdeep _ _ y.1 y.2 h.2 (by simp)).1
    ·exact (hdeep _ _ y.1 y.2 h.2 (by simp)).1
   rcases h with ⟨rfl,h⟩ | ⟨j,k,q,rfl,h⟩
   ·rcases h' with ⟨rfl,h'⟩ | ⟨j',k',q',rfl,h'⟩
    ·rfl
    ·simp only [Option.some.injEq,Prod.mk.injEq] at h
     exact absurd (by rw [← hb,← h.1]) (a8b h')
   ·rcases h' with ⟨rfl,h'⟩ | ⟨j',k',q',rfl,h'⟩
    ·simp only [Option.some.injEq,Prod.mk.injEq] at h'
     exact absurd (by rw [hb,← h'.1]) (a8b h)
    ·have fin:∀ {a1 a2:Nat} {p1 p2:Path},γ a1 p1=some (ad,c1)→γ a2 p2=some (ad',c1')→a1=a2∧p1=p2:=fun h1 h2=>hA.inj _ _ _ _ _ _ _ _ h1 h2 hb
     rcases h with ⟨g1,h⟩ | ⟨g1,h⟩ | ⟨g1,h⟩ <;> rcases h' with ⟨g2,h'⟩ | ⟨g2,h'⟩ | ⟨g2,h'⟩ <;> obtain ⟨r1,r2⟩:=fin h h' <;> simp only [List.cons.injEq,true_and] at r2 ⊢
     ·exact r2
     ·omega
     ·omega
     ·omega
     ·exact ⟨by omega,r2⟩
     ·omega
     ·omega
     ·omega
     ·exact ⟨by omega,r2.2⟩
  ·intro a p ad c1 h
   obtain ⟨_,k1⟩:=b9p h
   clear h
   have h:=k1
   have a8b:∀ {a2 p2},γ a2 p2=some (ad,c1)→(w.heap.size≤ad.block∨Dof γ ad.block)∧ad.block < w'.heap.size:=fun hg=>⟨.inr ⟨_,_,_,_,hg,rfl⟩,Nat.lt_of_lt_of_le (hA.rng _ _ _ _ hg) hsz⟩
   rcases h with ⟨rfl,h⟩ | ⟨j,k,q,rfl,h | h | h⟩
   ·simp only [Option.some.injEq,Prod.mk.injEq] at h
    rw [← h.1]
    exact ⟨hob.elim (fun h=>.inr (hD _ h)) .inl,hbl⟩
   ·exact a8b h.2
   ·exact a8b h.2
   ·exact a8b h.2
  ·intro E G V
   show RelOwn w' (.arr m (n+1) (a7G i F Gt)) (fun q=>b4L i (some (⟨b,off,none⟩,c)) γ 0 (0::0::q)) _
   refine f1v rfl hm hR fun j hj k hk u hu=>?_
   have hle:i*m≤n*m:=Nat.mul_le_mul_right _ hi
   have hlt:=a4J hj hk
   have ht:(cs.take (i*m)).length=i*m:=by rw [List.length_take,hcl];omega
   have hvl:vs.length=m:=by rw [hv.len,Nat.one_mul]
   rw [List.append_assoc] at hu
   by_cases a:j < i
   ·have hx:j*m+k < i*m:=a4J a hk
    rw [List.getElem?_append_left (by omega),List.getElem?_take,if_pos hx] at hu
    have h:=hco _ u hu
    have hd:(j*m+k) / m=j:=by rw [Nat.mul_comm,Nat.mul_add_div hm,Nat.div_eq_of_lt hk];omega
    have hmd:(j*m+k) % m=k:=by rw [Nat.mul_comm,Nat.mul_add_mod,Nat.mod_eq_of_lt hk]
    rw [hd,hmd] at h
    have e1:a7G i F Gt j k=F j k:=by unfold a7G;rw [if_pos a]
    have e2:(fun q=>b4L i (some (⟨b,off,none⟩,c)) γ 0 (0::0::j::k::q))=fun q=>γ 0 (0::0::j::k::q):=by funext q;simp only [b4L,if_pos a]
    rw [e1,e2]
    exact h.extL fun p _ _ _ ad c' _ hg=>hkeep _ _ ad c' hg (by simp)
   ·rw [List.getElem?_append_right (by rw [ht];have:=Nat.mul_le_mul_right m (Nat.le_of_not_lt a);omega),ht] at hu
    by_cases a2:j=i
    ·subst a2
     rw [Nat.add_sub_cancel_left,List.getElem?_append_left (by omega)] at hu
     have h:=hvo _ u hu
     rw [Nat.div_eq_of_lt hk,Nat.mod_eq_of_lt hk] at h
     have e1:a7G j F Gt j k=Gt 0 k:=by unfold a7G;rw [if_neg a,if_pos rfl]
     have e2:(fun q=>b4L j (some (⟨b,off,none⟩,c)) γ 0 (0::0::j::k::q))=fun q=>γ 2 (0::0::0::k::q):=by funext q;simp only [b4L,if_neg a,if_true]
     rw [e1,e2]
     exact h.extL fun p _ _ _ ad c' _ hg=>hkeep _ _ ad c' hg (by simp)
    ·have hgt:i < j:=by omega
     obtain ⟨j1,rfl⟩:∃ j1,j=j1+1:=⟨j - 1,by omega⟩
     have hij:i*m≤j1*m:=Nat.mul_le_mul_right _ (by omega)
     have hx1:(j1+1)*m+k - i*m - vs.length=j1*m - i*m+k:=by rw [Nat.add_mul,Nat.one_mul,hvl];omega
     rw [List.getElem?_append_right (by rw [Nat.add_mul,Nat.one_mul,hvl];omega),hx1,List.getElem?_drop,show i*m+(j1*m - i*m+k)=j1*m+k by omega] at hu
     have h:=hco _ u hu
     have hd:(j1*m+k) / m=j1:=by rw [Nat.mul_comm,Nat.mul_add_div hm,Nat.div_eq_of_lt hk];omega
     have hmd:(j1*m+k) % m=k:=by rw [Nat.mul_comm,Nat.mul_add_mod,Nat.mod_eq_of_lt hk]
     rw [hd,hmd] at h
     have e1:a7G i F Gt (j1+1) k=F j1 k:=by unfold a7G;rw [if_neg a,if_neg a2];rfl
     have e2:(fun q=>b4L i (some (⟨b,off,none⟩,c)) γ 0 (0::0::(j1+1)::k::q))=fun q=>γ 0 (0::0::j1::k::q):=by funext q;simp only [b4L,if_neg a,if_neg a2];rfl
     rw [e1,e2]
     exact h.extL fun p _ _ _ ad c' _ hg=>hkeep _ _ ad c' hg (by simp)
  ·intro k x hx
   rcases k with _ | _ | _ | k
   ·cases hx
    exact ⟨_,_,rfl,by rw [hvals];rfl,by unfold OutOk;simp⟩
   ·cases hx
    exact ⟨_,_,rfl,by rw [hvals];rfl,by unfold OutOk;simp⟩
   ·cases hx
    exact ⟨_,_,rfl,by rw [hvals];rfl,by unfold OutOk;simp⟩
   ·cases hx
 rcases d1s hr0 with ⟨hg0,hn0,rfl⟩ | ⟨b,off,c,cs,hg0,rfl,_,hs,hco⟩
 ·subst hn0
  obtain rfl:i=0:=by omega
  rw [hvals]
  refine (raw0 rfl w vb voff vc vs hv).mono fun e w' h=>?_
  rw [← hvals]
  refine close (fun _=>False) [] e w' (by simp) (fun x u h=>by simp at h) (fun x h=>h.elim) ?_
  simpa using h
 ·have hne:vb≠b:=fun e=>by
   have:=(hA.inj 2 [0,0] 0 [0,0] _ _ _ _ hg2 hg0 e).1
   omega
  rw [hvals]
  refine (raw w b off c vb voff vc cs vs hs hv hne).mono fun e w' h=>?_
  rw [← hvals]
  exact close (·=b) cs e w' hs.len hco (fun x hx=>⟨(off,c),by rw [hx];exact hg0⟩) h
theorem b9r {α:Type} {row:α→List T} {l:List α} {x:α} {i:Nat} (hi:i≤l.length):a7G i (atL row l) (atL row [x])=atL row (l.take i ++ [x] ++ l.drop i):=by
 have ht:(l.take i).length=i:=by rw [List.length_take];omega
 funext j k
 unfold a7G atL
 rw [List.append_assoc]
 by_cases a:j < i
 ·rw [if_pos a,List.getElem?_append_left (by omega),List.getElem?_take,if_pos a]
 ·rw [if_neg a,List.getElem?_append_right (by omega),ht]
  by_cases b:j=i
  ·subst b
   rw [if_pos rfl]
   simp
  ·rw [if_neg b]
   obtain ⟨d,rfl⟩:∃ d,j=i+1+d:=⟨j - i - 1,by omega⟩
   rw [show i+1+d - i=d+1 by omega,List.singleton_append,List.getElem?_cons_succ,List.getElem?_drop]
   congr 2
   omega
end
end Go.Mach
namespace Go.Mach
open Go Go.RowKit Go.Proofs
set_option maxHeartbeats 4000000 in
set_option maxRecDepth 100000 in
theorem d1t {w:World} {b off n c i vb voff vc:Nat} {cs vs:List Value} (hs:RowAt w b off n c 2 cs) (hv:RowAt w vb voff 1 vc 2 vs) (hne:vb≠b) (hi:i < n) (hroom:n+1≤c) (hn:n≤4611686018427387904) :
  Calls Tryz.prog 133 #[.slice (some ⟨b,off,none⟩) n c,.int .i64 i,.slice (some ⟨vb,voff,none⟩) 1 vc] w fun e w'=>G3 w w' (·=b) e (n+1) 2 (cs.take (i*2) ++ vs ++ cs.drop (i*2)):=by
 obtain ⟨⟨CS,eC,hb,hfit,hcs⟩,hnc,hcl,h1c⟩:=hs
 obtain ⟨⟨VS,eV,hvb,hvf,hvs⟩,hvc,hvl,h1v⟩:=hv
 have hov:∀ lb cb,(callFunc 183 #[.slice (some ⟨vb,voff,none⟩) 1 vc,.slice (some ⟨b,off+(i+1)*2,none⟩) lb cb]).run Tryz.prog w=.ok (.value (.bool false)) w:=fun lb cb=>by
  rw [run_callFunc_extern Tryz.func183 (by kernel_rfl) (by kernel_rfl) (by kernel_rfl) (e:=Extern.SlicesOverlaps.overlaps #[119,119] #[4]) (by kernel_rfl),
   Lib.run_overlaps_apart w 119 4 82 Tryz.underlying119 2 (fun w=>by kernel_rfl) ⟨vb,voff,none⟩ ⟨b,off+(i+1)*2,none⟩ 1 vc lb cb hne eV eC VS.size CS.size (by simp [World.shape?,hvb]) (by simp [World.shape?,hb]) (by omega) (by simp [World.frozen?,hvb]) (by simp [World.frozen?,hvb])]
  rfl
 have hdl:(cs.drop (i*2)).length=(n - i)*2:=by rw [List.length_drop,hcl];omega
 have hw1:IntKind.i64.wrap ((i:Int)+1)=(i:Int)+1:=by rw [IntKind.wrap_i64];omega
 have hz2:¬ ((i:Int)=(n:Int)):=by omega
 have hin:i≤n:=by omega
 have htn:((i:Int)+1).toNat=i+1:=by omega
 have hb1:(0:Int)≤(i:Int)+1:=by omega
 have hb2:¬ (c=i+1):=by omega
 have hb3:(i:Int)≤(n:Int)+1:=by omega
 have hb4:¬ (c=i):=by omega
 have hle:off+(i+1)*2+(cs.drop (i*2)).length≤CS.size:=by rw [hdl];omega
 have h1d:∀ v∈cs.drop (i*2),v.oneCell'=true:=fun v hv=>h1c v (List.mem_of_mem_drop hv)
 have hcp1:∀ ty dc sc,(Builtin.copy_ #[119,119] ty #[.slice (some ⟨b,off+(i+1)*2,none⟩) (n - i) dc,.slice (some ⟨b,off+i*2,none⟩) (n+1 - i) sc]).run Tryz.prog w.drew=.ok (goInt (n - i:Nat)) (w.drew.setRow b (spl CS (off+(i+1)*2) (cs.drop (i*2)))):=fun ty dc sc =>
  a1B w.drew 119 119 ty 82 eC 2 Tryz.underlying119 (by kernel_rfl) b _ _ dc CS hb ⟨b,off+i*2,none⟩ _ sc (n - i) (cs.drop (i*2)) (by simp only [Nat.min_def];split <;> omega) hdl
   (fun j v hj=>by
    rw [List.getElem?_drop] at hj
    have:=hcs _ v hj
    rw [← Nat.add_assoc] at this
    simp [World.cell?,Addr.add_lit,show w.drew.heap[b]?=_ from hb,this]) hle h1d
 have hb2':(w.drew.setRow b (spl CS (off+(i+1)*2) (cs.drop (i*2)))).heap[b]?=some (.cells (spl CS (off+(i+1)*2) (cs.drop (i*2))) eC (0,0)):=setRow_heap w.drew b CS _ eC (0,0) hb
 have hv2':(w.drew.setRow b (spl CS (off+(i+1)*2) (cs.drop (i*2)))).heap[vb]?=some (.cells VS eV (0,0)):=(setRow_other w.drew b vb _ hne).trans hvb
 have hsp1:=a0N hle
 have hle2:off+i*2+vs.length≤(spl CS (off+(i+1)*2) (cs.drop (i*2))).size:=by rw [hvl,hsp1];omega
 have hcp2:∀ ty dc,(Builtin.copy_ #[119,119] ty #[.slice (some ⟨b,off+i*2,none⟩) (n+1 - i) dc,.slice (some ⟨vb,voff,none⟩) 1 vc]).run Tryz.prog (w.drew.setRow b (spl CS (off+(i+1)*2) (cs.drop (i*2))))=.ok (goInt (1:Nat)) ((w.drew.setRow b (spl CS (off+(i+1)*2) (cs.drop (i*2)))).setRow b (spl (spl CS (off+(i+1)*2) (cs.drop (i*2))) (off+i*2) vs)):=fun ty dc =>
  a1B _ 119 119 ty 82 eC 2 Tryz.underlying119 (by kernel_rfl) b _ _ dc _ hb2' ⟨vb,voff,none⟩ 1 vc 1 vs (by simp only [Nat.min_def];split <;> omega) hvl
   (fun j v hj=>by
    have:=hvs j v hj
    simp [World.cell?,Addr.add_lit,hv2',this]) hle2 h1v
 go_enter Tryz.func133,Tryz.ntmps133
 go_wp2_with (simp only [hov])
 go_region_law (refine a4l rfl _ _ 119 119 rfl _ _ (by simp [Act.eval,Act.put]) (by simp [Act.eval,Act.put]) (hcp1 _ _ _) ?_)
 go_wp2_with (at_builtin;refine a1R _ rfl _ _ 119 119 rfl _ _ rfl rfl (hcp2 _ _) ?_)
 go_ret
 refine G3.same (CS:=spl (spl CS (off+(i+1)*2) (cs.drop (i*2))) (off+i*2) vs) (e:=eC) (fun x hx=>?_) ?_ rfl rfl rfl (setRow_heap _ b _ _ eC (0,0) hb2') ?_ ?_ hroom ?_ ?_
 ·rw [setRow_other _ b x _ hx,setRow_other _ b x _ hx]
  rfl
 ·simp [World.setRow]
 ·rw [a0N hle2,hsp1];exact hfit
 ·exact c7T hle hle2 hi hcl hvl hcs
 ·simp only [List.length_append,List.length_take,hdl,hvl,hcl];omega
 ·intro v hv
  rcases List.mem_append.1 hv with h | h
  ·rcases List.mem_append.1 h with h | h
   ·exact h1c v (List.mem_of_mem_take h)
   ·exact h1v v h
  ·exact h1d v h
set_option maxHeartbeats 4000000 in
set_option maxRecDepth 100000 in
theorem d7P {w:World} {b off n c vb voff vc:Nat} {cs vs:List Value} (hs:RowAt w b off n c 2 cs) (hv:RowAt w vb voff 1 vc 2 vs) (hroom:n+1≤c) (hn:n≤4611686018427387904) :
  Calls Tryz.prog 133 #[.slice (some ⟨b,off,none⟩) n c,.int .i64 n,.slice (some ⟨vb,voff,none⟩) 1 vc] w fun e w'=>G3 w w' (·=b) e (n+1) 2 (cs ++ vs):=by
 obtain ⟨⟨CS,eC,hb,hfit,hcs⟩,hnc,hcl,h1c⟩:=hs
 obtain ⟨⟨VS,eV,hvb,hvf,hvs⟩,hvc,hvl,h1v⟩:=hv
 obtain ⟨i0,hi0,hz0,hzs,hzb⟩:∃ i0:TypeInfo,Tryz.prog.info? 82=some i0∧(∃ z,i0.zero=some z∧z.cells.size=2)∧i0.size=2∧i0.bytes=16:=⟨_,rfl,⟨_,rfl,by kernel_rfl⟩,by kernel_rfl,by kernel_rfl⟩
 have hfc:(Builtin.firstCells i0.size 1 (.slice (some ⟨vb,voff,none⟩) 1 vc)).run Tryz.prog w=.ok vs.toArray w:=by
  rw [hzs]
  exact run_firstCells_some w 2 1 ⟨vb,voff,none⟩ 1 vc vs hvl fun j v hj=>by simp [World.cell?,Addr.add_lit,hvb,hvs j v hj]
 have hle:off+n*2+vs.length≤CS.size:=by rw [hvl];omega
 have hap:∀ ty,(Builtin.append_ #[119,119] ty #[.slice (some ⟨b,off,none⟩) n c,.slice (some ⟨vb,voff,none⟩) 1 vc]).run Tryz.prog w=.ok (.slice (some ⟨b,off,none⟩) (n+1) c) (w.setRow b (spl CS (off+n*2) vs)):=fun ty=>by
  have:=a5q 119 ty 82 eC i0 Tryz.underlying119 hi0 b off n c CS hb (some ⟨vb,voff,none⟩) 1 vc vs hfc h1v hroom (by rw [hzs];exact hle)
  rw [hzs] at this
  exact this
 go_enter Tryz.func133,Tryz.ntmps133
 go_wp2_with (at_builtin;refine D9 _ rfl _ _ 119 119 rfl _ _ rfl rfl (hap _) ?_)
 go_ret
 refine G3.same (CS:=spl CS (off+n*2) vs) (e:=eC) (fun x hx=>setRow_other _ b x _ hx) (by simp [World.setRow]) rfl rfl rfl (setRow_heap w b CS _ eC (0,0) hb) ?_ ?_ hroom ?_ ?_
 ·rw [a0N hle];exact hfit
 ·exact c7U hle hcl hcs
 ·simp only [List.length_append,hvl,hcl];omega
 ·intro v hv
  rcases List.mem_append.1 hv with h | h
  ·exact h1c v h
  ·exact h1v v h
set_option maxHeartbeats 4000000 in
set_option maxRecDepth 100000 in
theorem d1u {w:World} {b off n c vb voff vc:Nat} {cs vs:List Value} (hs:RowAt w b off n c 2 cs) (hv:RowAt w vb voff 1 vc 2 vs) (hroom:c < n+1) (hn:(n+1)*16≤140737488355328) :
  Calls Tryz.prog 133 #[.slice (some ⟨b,off,none⟩) n c,.int .i64 n,.slice (some ⟨vb,voff,none⟩) 1 vc] w fun e w'=>G3 w w' (·=b) e (n+1) 2 (cs ++ vs):=by
 obtain ⟨⟨CS,eC,hb,hfit,hcs⟩,hnc,hcl,h1c⟩:=hs
 obtain ⟨⟨VS,eV,hvb,hvf,hvs⟩,hvc,hvl,h1v⟩:=hv
 obtain ⟨i0,hi0,hz0,hzs,hzb⟩:∃ i0:TypeInfo,Tryz.prog.info? 82=some i0∧(∃ z,i0.zero=some z∧z.cells.size=2)∧i0.size=2∧i0.bytes=16:=⟨_,rfl,⟨_,rfl,by kernel_rfl⟩,by kernel_rfl,by kernel_rfl⟩
 obtain ⟨z,hz,hzl⟩:=hz0
 obtain ⟨G,hG⟩:∃ G,G=grownCap w (n+1) c 82:=⟨_,rfl⟩
 have hge:n+1≤G:=by rw [hG];exact a8H w (n+1) c 82
 obtain ⟨ROW,hROW⟩:∃ ROW:Array Value,ROW=cs.toArray ++ vs.toArray ++ Builtin.zeroCells z.cells (G - (n+1)):=⟨_,rfl⟩
 have hap:∀ ty,(Builtin.append_ #[119,119] ty #[.slice (some ⟨b,off,none⟩) n c,.slice (some ⟨vb,voff,none⟩) 1 vc]).run Tryz.prog w=.ok (.slice (some ⟨w.heap.size,0,none⟩) (n+1) G) (w.drew.alloc (.cells ROW 82)):=fun ty=>by
  rw [hROW,hG]
  exact run_append_grow w 119 ty 82 i0 z Tryz.underlying119 hi0 hz ⟨b,off,none⟩ n c cs (by rw [hzs];exact hcl) (fun j v hj=>by simp [World.cell?,Addr.add_lit,hb,hcs j v hj]) ⟨vb,voff,none⟩ 1 vc vs (by rw [hzs];exact hvl) (fun j v hj=>by simp [World.cell?,Addr.add_lit,hvb,hvs j v hj]) hroom (by omega) (by rw [hzb];exact growslice_fits hroom hn)
 have hf:G*2≤ROW.size:=by
  rw [hROW]
  simp only [Array.size_append,List.size_toArray,size_zeroCells,hzl,hcl,hvl,← Nat.add_mul]
  exact Nat.mul_le_mul_right _ (by omega)
 have hc:∀ (j:Nat) v,(cs ++ vs)[j]?=some v→ROW[j]?=some v:=fun j v hj=>by
  rw [hROW,Array.getElem?_append_left (by simpa using (List.getElem?_eq_some_iff.1 hj).1)]
  simpa using hj
 have hl:(cs ++ vs).length=(n+1)*2:=by simp only [List.length_append,hvl,hcl];omega
 have h1:∀ v∈cs ++ vs,v.oneCell'=true:=fun v hv=>(List.mem_append.1 hv).elim (h1c v) (h1v v)
 have hR:=G3.new (own:=(·=b)) (w:=w) (w':=w.drew.alloc (.cells ROW 82)) (e:=82) (fun x hx=>(Q4 w _).old x hx) rfl rfl rfl (heap_alloc_new w.drew _) hf hc hge hl h1
 obtain ⟨W1,hW1⟩:∃ W1,W1=w.drew.alloc (.cells ROW 82):=⟨_,rfl⟩
 rw [← hW1] at hap hR
 clear hW1 hf hc hl h1 hROW hG hge
 go_enter Tryz.func133,Tryz.ntmps133
 go_wp2_with (at_builtin;refine D9 _ rfl _ _ 119 119 rfl _ _ rfl rfl (hap _) ?_)
 all_goals (go_ret;exact hR)
set_option maxHeartbeats 4000000 in
set_option maxRecDepth 100000 in
theorem d7Q {w:World} {vb voff vc:Nat} {vs:List Value} (hv:RowAt w vb voff 1 vc 2 vs) :
  Calls Tryz.prog 133 #[.slice none 0 0,.int .i64 0,.slice (some ⟨vb,voff,none⟩) 1 vc] w fun e w'=>G3 w w' (fun _=>False) e 1 2 vs:=by
 obtain ⟨⟨VS,eV,hvb,hvf,hvs⟩,hvc,hvl,h1v⟩:=hv
 obtain ⟨i0,hi0,hz0,hzs,hzb⟩:∃ i0:TypeInfo,Tryz.prog.info? 82=some i0∧(∃ z,i0.zero=some z∧z.cells.size=2)∧i0.size=2∧i0.bytes=16:=⟨_,rfl,⟨_,rfl,by kernel_rfl⟩,by kernel_rfl,by kernel_rfl⟩
 obtain ⟨z,hz,hzl⟩:=hz0
 obtain ⟨G,hG⟩:∃ G,G=grownCap w 1 0 82:=⟨_,rfl⟩
 have hge:1≤G:=by rw [hG];exact a8H w 1 0 82
 obtain ⟨ROW,hROW⟩:∃ ROW:Array Value,ROW=vs.toArray ++ Builtin.zeroCells z.cells (G - 1):=⟨_,rfl⟩
 have hap:∀ ty,(Builtin.append_ #[119,119] ty #[.slice none 0 0,.slice (some ⟨vb,voff,none⟩) 1 vc]).run Tryz.prog w=.ok (.slice (some ⟨w.heap.size,0,none⟩) 1 G) (w.drew.alloc (.cells ROW 82)):=fun ty=>by
  rw [hROW,hG]
  exact run_append_nil w 119 ty 82 i0 z Tryz.underlying119 hi0 hz ⟨vb,voff,none⟩ 1 vc vs (by rw [hzs];exact hvl) (fun j v hj=>by simp [World.cell?,Addr.add_lit,hvb,hvs j v hj]) (by omega) (by omega) (by rw [hzb];omega)
 have hf:G*2≤ROW.size:=by
  rw [hROW]
  simp only [Array.size_append,List.size_toArray,size_zeroCells,hzl,hvl,← Nat.add_mul]
  exact Nat.mul_le_mul_right _ (by omega)
 have hc:∀ (j:Nat) v,vs[j]?=some v→ROW[j]?=some v:=fun j v hj=>by
  rw [hROW,Array.getElem?_append_left (by simpa using (List.getElem?_eq_some_iff.1 hj).1)]
  simpa using hj
 have hR:=G3.new (own:=fun _=>False) (w:=w) (w':=w.drew.alloc (.cells ROW 82)) (e:=82) (fun x hx=>(Q4 w _).old x hx) rfl rfl rfl (heap_alloc_new w.drew _) hf hc hge hvl h1v
 obtain ⟨W1,hW1⟩:∃ W1,W1=w.drew.alloc (.cells ROW 82):=⟨_,rfl⟩
 rw [← hW1] at hap hR
 clear hW1 hf hc hROW hG hge
 go_enter Tryz.func133,Tryz.ntmps133
 go_wp2_with (at_builtin;refine D9 _ rfl _ _ 119 119 rfl _ _ rfl rfl (hap _) ?_)
 all_goals (go_ret;exact hR)
set_option maxHeartbeats 4000000 in
set_option maxRecDepth 100000 in
theorem d3N {w:World} {b off n c i vb voff vc:Nat} {cs vs:List Value} (hs:RowAt w b off n c 2 cs) (hv:RowAt w vb voff 1 vc 2 vs) (hi:i < n) (hroom:c < n+1) (hn:(n+1)*16≤140737488355328) :
  Calls Tryz.prog 133 #[.slice (some ⟨b,off,none⟩) n c,.int .i64 i,.slice (some ⟨vb,voff,none⟩) 1 vc] w fun e w'=>G3 w w' (·=b) e (n+1) 2 (cs.take (i*2) ++ vs ++ cs.drop (i*2)):=by
 obtain ⟨⟨CS,eC,hb,hfit,hcs⟩,hnc,hcl,h1c⟩:=hs
 obtain ⟨⟨VS,eV,hvb,hvf,hvs⟩,hvc,hvl,h1v⟩:=hv
 obtain ⟨i0,hi0,hz0,hzs,hzb⟩:∃ i0:TypeInfo,Tryz.prog.info? 82=some i0∧(∃ z,i0.zero=some z∧z.cells.size=2)∧i0.size=2∧i0.bytes=16:=⟨_,rfl,⟨_,rfl,by kernel_rfl⟩,by kernel_rfl,by kernel_rfl⟩
 obtain ⟨z,hz,hzl⟩:=hz0
 have hdl:(cs.drop (i*2)).length=(n - i)*2:=by rw [List.length_drop,hcl];omega
 have hw1:IntKind.i64.wrap ((i:Int)+1)=(i:Int)+1:=by rw [IntKind.wrap_i64];omega
 have hw2:IntKind.i64.wrap ((n:Int)+1 - (i:Int))=((n+1 - i:Nat):Int):=by rw [IntKind.wrap_i64];omega
 have hw3:(n:Int)+1 - (i:Int)=((n+1 - i:Nat):Int):=by omega
 have hz2:¬ ((i:Int)=(n:Int)):=by omega
 have hz3:(c:Int) < (n:Int)+1:=by omega
 have hin:i≤n:=by omega
 have hic:i≤c:=by omega
 have hik:i+(n+1 - i)=n+1:=by omega
 have htn:((i:Int)+1).toNat=i+1:=by omega
 have hb1:(0:Int)≤(i:Int)+1:=by omega
 have hb3:(i:Int)≤(n:Int)+1:=by omega
 have h1d:∀ v∈cs.drop (i*2),v.oneCell'=true:=fun v hv=>h1c v (List.mem_of_mem_drop hv)
 have hold:(Builtin.firstCells i0.size i (.slice (some ⟨b,off,none⟩) i c)).run Tryz.prog w.drew=.ok (cs.take (i*2)).toArray w.drew:=by
  rw [hzs]
  exact run_firstCells_some w.drew 2 i ⟨b,off,none⟩ i c (cs.take (i*2)) (by rw [List.length_take];omega) fun j v hj=>by
   rw [List.getElem?_take] at hj
   split at hj
   ·simp [World.cell?,Addr.add_lit,show w.drew.heap[b]?=_ from hb,hcs j v hj]
   ·cases hj
 obtain ⟨G,hG⟩:∃ G,G=grownCap w (n+1) c 82:=⟨_,rfl⟩
 have hge:n+1≤G:=by rw [hG];exact a8H w (n+1) c 82
 obtain ⟨ROW,hROW⟩:∃ ROW:Array Value,ROW=(cs.take (i*2)).toArray ++ Builtin.zeroCells z.cells (n+1 - i) ++ Builtin.zeroCells z.cells (G - (n+1)):=⟨_,rfl⟩
 have hap:∀ ty,(Builtin.append_ #[119,3] ty #[.slice (some ⟨b,off,none⟩) i c,.int .i64 ((n+1 - i:Nat):Int)]).run Tryz.prog w=.ok (.slice (some ⟨w.heap.size,0,none⟩) (n+1) G) (w.drew.alloc (.cells ROW 82)):=fun ty=>by
  have:=Lib.run_append_grow_zeros w 119 3 ty 82 i0 z .i64 .i64 Tryz.underlying119 Tryz.underlying3 hi0 hz (some ⟨b,off,none⟩) i c (cs.take (i*2)) hold (n+1 - i) (by omega) (by rw [hzs];omega) (by omega) (by omega) (by rw [hzb];omega) (by rw [hzb,hik];exact growslice_fits hroom hn)
  rw [hik] at this
  rw [hROW,hG]
  exact this
 have hRl:ROW.size=G*2:=by
  rw [hROW]
  simp only [Array.size_append,List.size_toArray,size_zeroCells,hzl,List.length_take,hcl]
  omega
 have hR0:∀ (j:Nat) v,(cs.take (i*2))[j]?=some v→ROW[j]?=some v:=fun j v hj=>by
  rw [hROW,Array.getElem?_append_left (by have:=(List.getElem?_eq_some_iff.1 hj).1;simp only [Array.size_append,List.size_toArray];omega),Array.getElem?_append_left (by simpa using (List.getElem?_eq_some_iff.1 hj).1)]
  simpa using hj
 have hbw:=a8G hb
 have hvw:=a8G hvb
 have hnew:(w.drew.alloc (.cells ROW 82)).heap[w.heap.size]?=some (.cells ROW 82 (0,0)):=heap_alloc_new w.drew _
 have hvb1:(w.drew.alloc (.cells ROW 82)).heap[vb]?=some (.cells VS eV (0,0)):=((Q4 w _).old vb hvw).trans hvb
 have hb1':(w.drew.alloc (.cells ROW 82)).heap[b]?=some (.cells CS eC (0,0)):=((Q4 w _).old b hbw).trans hb
 obtain ⟨W1,hW1⟩:∃ W1,W1=w.drew.alloc (.cells ROW 82):=⟨_,rfl⟩
 rw [← hW1] at hap hnew hvb1 hb1'
 have hle:i*2+vs.length≤ROW.size:=by rw [hvl,hRl];omega
 have hcp1:∀ ty dc,(Builtin.copy_ #[119,119] ty #[.slice (some ⟨w.heap.size,i*2,none⟩) (n+1 - i) dc,.slice (some ⟨vb,voff,none⟩) 1 vc]).run Tryz.prog W1=.ok (goInt (1:Nat)) (W1.setRow w.heap.size (spl ROW (i*2) vs)):=fun ty dc =>
  a1B W1 119 119 ty 82 82 2 Tryz.underlying119 (by kernel_rfl) w.heap.size _ _ dc ROW hnew ⟨vb,voff,none⟩ 1 vc 1 vs (by simp only [Nat.min_def];split <;> omega) hvl
   (fun j v hj=>by simp [World.cell?,Addr.add_lit,hvb1,hvs j v hj]) hle h1v
 obtain ⟨W2,hW2⟩:∃ W2,W2=W1.setRow w.heap.size (spl ROW (i*2) vs):=⟨_,rfl⟩
 have hnew2:W2.drew.heap[w.heap.size]?=some (.cells (spl ROW (i*2) vs) 82 (0,0)):=by rw [hW2];exact setRow_heap W1 _ ROW _ 82 (0,0) hnew
 have hb2':W2.drew.heap[b]?=some (.cells CS eC (0,0)):=by rw [hW2];exact (setRow_other W1 _ b _ (by omega)).trans hb1'
 rw [← hW2] at hcp1
 have hs1:=a0N hle
 have hle2:(i+1)*2+(cs.drop (i*2)).length≤(spl ROW (i*2) vs).size:=by rw [hdl,hs1,hRl];omega
 have hcp2:∀ ty dc sc,(Builtin.copy_ #[119,119] ty #[.slice (some ⟨w.heap.size,(i+1)*2,none⟩) (n - i) dc,.slice (some ⟨b,off+i*2,none⟩) (n - i) sc]).run Tryz.prog W2.drew=.ok (goInt (n - i:Nat)) (W2.drew.setRow w.heap.size (spl (spl ROW (i*2) vs) ((i+1)*2) (cs.drop (i*2)))):=fun ty dc sc =>
  a1B W2.drew 119 119 ty 82 82 2 Tryz.underlying119 (by kernel_rfl) w.heap.size _ _ dc _ hnew2 ⟨b,off+i*2,none⟩ _ sc (n - i) (cs.drop (i*2)) (by simp only [Nat.min_def];split <;> omega) hdl
   (fun j v hj=>by
    rw [List.getElem?_drop] at hj
    have:=hcs _ v hj
    rw [← Nat.add_assoc] at this
    simp [World.cell?,Addr.add_lit,hb2',this]) hle2 h1d
 have hot:∀ x,x < w.heap.size→(W2.drew.setRow w.heap.size (spl (spl ROW (i*2) vs) ((i+1)*2) (cs.drop (i*2)))).heap[x]?=w.heap[x]?:=fun x hx=>by
  rw [setRow_other _ _ x _ (by omega),hW2]
  exact ((setRow_other W1 _ x _ (by omega)).trans (by rw [hW1];exact (Q4 w _).old x hx))
 have hl:(cs.take (i*2) ++ vs ++ cs.drop (i*2)).length=(n+1)*2:=by simp only [List.length_append,List.length_take,hdl,hvl,hcl];omega
 have h1:∀ v∈cs.take (i*2) ++ vs ++ cs.drop (i*2),v.oneCell'=true:=fun v hv=>by
  rcases List.mem_append.1 hv with h | h
  ·rcases List.mem_append.1 h with h | h
   ·exact h1c v (List.mem_of_mem_take h)
   ·exact h1v v h
  ·exact h1d v h
 have hR:=G3.new (own:=(·=b)) (w:=w) (e:=82) (CS:=spl (spl ROW (i*2) vs) ((i+1)*2) (cs.drop (i*2))) hot (by rw [hW2,hW1];rfl) (by rw [hW2,hW1];rfl) (by rw [hW2,hW1];rfl) (setRow_heap W2.drew _ _ _ 82 (0,0) hnew2) (by rw [a0N hle2,hs1,hRl];exact Nat.le_refl _) (c4z hle hle2 hi hcl hvl hR0) hge hl h1
 obtain ⟨W3,hW3⟩:∃ W3,W3=W2.drew.setRow w.heap.size (spl (spl ROW (i*2) vs) ((i+1)*2) (cs.drop (i*2))):=⟨_,rfl⟩
 rw [← hW3] at hcp2 hR
 have hb5:¬ (G=i):=by omega
 have hb6:¬ (G=i+1):=by omega
 have hb7:¬ (c=i):=by omega
 clear hW3 hW2 hW1 hot hl h1 hnew2 hb2' hnew hvb1 hb1' hROW hR0 hRl hle2 hs1 hle hG hold
 go_enter Tryz.func133,Tryz.ntmps133
 go_wp2_with (first
  | (at_builtin;refine D9 _ rfl _ _ 119 3 rfl _ _ rfl rfl (hap _) ?_)
  | (at_builtin;refine a1R _ rfl _ _ 119 119 rfl _ _ rfl rfl (hcp1 _ _) ?_))
 go_region_law (refine a4l rfl _ _ 119 119 rfl _ _ (by simp [Act.eval,Act.put]) (by simp [Act.eval,Act.put]) (hcp2 _ _ _) ?_)
 go_wp2
 go_ret
 exact hR
theorem d7R {w:World} {b off n c i vb voff vc:Nat} {cs vs:List Value} (hs:RowAt w b off n c 2 cs) (hv:RowAt w vb voff 1 vc 2 vs) (hne:vb≠b) (hi:i≤n) (hn:(n+1)*16≤140737488355328) :
  Calls Tryz.prog 133 #[.slice (some ⟨b,off,none⟩) n c,.int .i64 i,.slice (some ⟨vb,voff,none⟩) 1 vc] w fun e w'=>G3 w w' (·=b) e (n+1) 2 (cs.take (i*2) ++ vs ++ cs.drop (i*2)):=by
 by_cases h:i < n
 ·by_cases h2:n+1≤c
  ·exact d1t hs hv hne h h2 (by omega)
  ·exact d3N hs hv h (by omega) hn
 ·obtain rfl:i=n:=by omega
  rw [List.take_of_length_le (by rw [hs.len];exact Nat.le_refl _),List.drop_eq_nil_of_le (by rw [hs.len];exact Nat.le_refl _),List.append_nil]
  by_cases h2:i+1≤c
  ·exact d7P hs hv h2 (by omega)
  ·exact d1u hs hv (by omega) hn
set_option maxHeartbeats 4000000 in
set_option maxRecDepth 100000 in
theorem d1v {w:World} {b off n c i vb voff vc:Nat} {cs vs:List Value} (hs:RowAt w b off n c 11 cs) (hv:RowAt w vb voff 1 vc 11 vs) (hne:vb≠b) (hi:i < n) (hroom:n+1≤c) (hn:n≤4611686018427387904) :
  Calls Tryz.prog 136 #[.slice (some ⟨b,off,none⟩) n c,.int .i64 i,.slice (some ⟨vb,voff,none⟩) 1 vc] w fun e w'=>G3 w w' (·=b) e (n+1) 11 (cs.take (i*11) ++ vs ++ cs.drop (i*11)):=by
 obtain ⟨⟨CS,eC,hb,hfit,hcs⟩,hnc,hcl,h1c⟩:=hs
 obtain ⟨⟨VS,eV,hvb,hvf,hvs⟩,hvc,hvl,h1v⟩:=hv
 have hov:∀ lb cb,(callFunc 185 #[.slice (some ⟨vb,voff,none⟩) 1 vc,.slice (some ⟨b,off+(i+1)*11,none⟩) lb cb]).run Tryz.prog w=.ok (.value (.bool false)) w:=fun lb cb=>by
  rw [run_callFunc_extern Tryz.func185 (by kernel_rfl) (by kernel_rfl) (by kernel_rfl) (e:=Extern.SlicesOverlaps.overlaps #[34,34] #[4]) (by kernel_rfl),
   Lib.run_overlaps_apart w 34 4 122 Tryz.underlying34 11 (fun w=>by kernel_rfl) ⟨vb,voff,none⟩ ⟨b,off+(i+1)*11,none⟩ 1 vc lb cb hne eV eC VS.size CS.size (by simp [World.shape?,hvb]) (by simp [World.shape?,hb]) (by omega) (by simp [World.frozen?,hvb]) (by simp [World.frozen?,hvb])]
  rfl
 have hdl:(cs.drop (i*11)).length=(n - i)*11:=by rw [List.length_drop,hcl];omega
 have hw1:IntKind.i64.wrap ((i:Int)+1)=(i:Int)+1:=by rw [IntKind.wrap_i64];omega
 have hz2:¬ ((i:Int)=(n:Int)):=by omega
 have hin:i≤n:=by omega
 have htn:((i:Int)+1).toNat=i+1:=by omega
 have hb1:(0:Int)≤(i:Int)+1:=by omega
 have hb2:¬ (c=i+1):=by omega
 have hb3:(i:Int)≤(n:Int)+1:=by omega
 have hb4:¬ (c=i):=by omega
 have hle:off+(i+1)*11+(cs.drop (i*11)).length≤CS.size:=by rw [hdl];omega
 have h1d:∀ v∈cs.drop (i*11),v.oneCell'=true:=fun v hv=>h1c v (List.mem_of_mem_drop hv)
 have hcp1:∀ ty dc sc,(Builtin.copy_ #[34,34] ty #[.slice (some ⟨b,off+(i+1)*11,none⟩) (n - i) dc,.slice (some ⟨b,off+i*11,none⟩) (n+1 - i) sc]).run Tryz.prog w.drew=.ok (goInt (n - i:Nat)) (w.drew.setRow b (spl CS (off+(i+1)*11) (cs.drop (i*11)))):=fun ty dc sc =>
  a1B w.drew 34 34 ty 122 eC 11 Tryz.underlying34 (by kernel_rfl) b _ _ dc CS hb ⟨b,off+i*11,none⟩ _ sc (n - i) (cs.drop (i*11)) (by simp only [Nat.min_def];split <;> omega) hdl
   (fun j v hj=>by
    rw [List.getElem?_drop] at hj
    have:=hcs _ v hj
    rw [← Nat.add_assoc] at this
    simp [World.cell?,Addr.add_lit,show w.drew.heap[b]?=_ from hb,this]) hle h1d
 have hb2':(w.drew.setRow b (spl CS (off+(i+1)*11) (cs.drop (i*11)))).heap[b]?=some (.cells (spl CS (off+(i+1)*11) (cs.drop (i*11))) eC (0,0)):=setRow_heap w.drew b CS _ eC (0,0) hb
 have hv2':(w.drew.setRow b (spl CS (off+(i+1)*11) (cs.drop (i*11)))).heap[vb]?=some (.cells VS eV (0,0)):=(setRow_other w.drew b vb _ hne).trans hvb
 have hsp1:=a0N hle
 have hle2:off+i*11+vs.length≤(spl CS (off+(i+1)*11) (cs.drop (i*11))).size:=by rw [hvl,hsp1];omega
 have hcp2:∀ ty dc,(Builtin.copy_ #[34,34] ty #[.slice (some ⟨b,off+i*11,none⟩) (n+1 - i) dc,.slice (some ⟨vb,voff,none⟩) 1 vc]).run Tryz.prog (w.drew.setRow b (spl CS (off+(i+1)*11) (cs.drop (i*11))))=.ok (goInt (1:Nat)) ((w.drew.setRow b (spl CS (off+(i+1)*11) (cs.drop (i*11)))).setRow b (spl (spl CS (off+(i+1)*11) (cs.drop (i*11))) (off+i*11) vs)):=fun ty dc =>
  a1B _ 34 34 ty 122 eC 11 Tryz.underlying34 (by kernel_rfl) b _ _ dc _ hb2' ⟨vb,voff,none⟩ 1 vc 1 vs (by simp only [Nat.min_def];split <;> omega) hvl
   (fun j v hj=>by
    have:=hvs j v hj
    simp [World.cell?,Addr.add_lit,hv2',this]) hle2 h1v
 go_enter Tryz.func136,Tryz.ntmps136
 go_wp2_with (simp only [hov])
 go_region_law (refine a4l rfl _ _ 34 34 rfl _ _ (by simp [Act.eval,Act.put]) (by simp [Act.eval,Act.put]) (hcp1 _ _ _) ?_)
 go_wp2_with (at_builtin;refine a1R _ rfl _ _ 34 34 rfl _ _ rfl rfl (hcp2 _ _) ?_)
 go_ret
 refine G3.same (CS:=spl (spl CS (off+(i+1)*11) (cs.drop (i*11))) (off+i*11) vs) (e:=eC) (fun x hx=>?_) ?_ rfl rfl rfl (setRow_heap _ b _ _ eC (0,0) hb2') ?_ ?_ hroom ?_ ?_
 ·rw [setRow_other _ b x _ hx,setRow_other _ b x _ hx]
  rfl
 ·simp [World.setRow]
 ·rw [a0N hle2,hsp1];exact hfit
 ·exact c7T hle hle2 hi hcl hvl hcs
 ·simp only [List.length_append,List.length_take,hdl,hvl,hcl];omega
 ·intro v hv
  rcases List.mem_append.1 hv with h | h
  ·rcases List.mem_append.1 h with h | h
   ·exact h1c v (List.mem_of_mem_take h)
   ·exact h1v v h
  ·exact h1d v h
set_option maxHeartbeats 4000000 in
set_option maxRecDepth 100000 in
theorem d7S {w:World} {b off n c vb voff vc:Nat} {cs vs:List Value} (hs:RowAt w b off n c 11 cs) (hv:RowAt w vb voff 1 vc 11 vs) (hroom:n+1≤c) (hn:n≤4611686018427387904) :
  Calls Tryz.prog 136 #[.slice (some ⟨b,off,none⟩) n c,.int .i64 n,.slice (some ⟨vb,voff,none⟩) 1 vc] w fun e w'=>G3 w w' (·=b) e (n+1) 11 (cs ++ vs):=by
 obtain ⟨⟨CS,eC,hb,hfit,hcs⟩,hnc,hcl,h1c⟩:=hs
 obtain ⟨⟨VS,eV,hvb,hvf,hvs⟩,hvc,hvl,h1v⟩:=hv
 obtain ⟨i0,hi0,hz0,hzs,hzb⟩:∃ i0:TypeInfo,Tryz.prog.info? 122=some i0∧(∃ z,i0.zero=some z∧z.cells.size=11)∧i0.size=11∧i0.bytes=136:=⟨_,rfl,⟨_,rfl,by kernel_rfl⟩,by kernel_rfl,by kernel_rfl⟩
 have hfc:(Builtin.firstCells i0.size 1 (.slice (some ⟨vb,voff,none⟩) 1 vc)).run Tryz.prog w=.ok vs.toArray w:=by
  rw [hzs]
  exact run_firstCells_some w 11 1 ⟨vb,voff,none⟩ 1 vc vs hvl fun j v hj=>by simp [World.cell?,Addr.add_lit,hvb,hvs j v hj]
 have hle:off+n*11+vs.length≤CS.size:=by rw [hvl];omega
 have hap:∀ ty,(Builtin.append_ #[34,34] ty #[.slice (some ⟨b,off,none⟩) n c,.slice (some ⟨vb,voff,none⟩) 1 vc]).run Tryz.prog w=.ok (.slice (some ⟨b,off,none⟩) (n+1) c) (w.setRow b (spl CS (off+n*11) vs)):=fun ty=>by
  have:=a5q 34 ty 122 eC i0 Tryz.underlying34 hi0 b off n c CS hb (some ⟨vb,voff,none⟩) 1 vc vs hfc h1v hroom (by rw [hzs];exact hle)
  rw [hzs] at this
  exact this
 go_enter Tryz.func136,Tryz.ntmps136
 go_wp2_with (at_builtin;refine D9 _ rfl _ _ 34 34 rfl _ _ rfl rfl (hap _) ?_)
 go_ret
 refine G3.same (CS:=spl CS (off+n*11) vs) (e:=eC) (fun x hx=>setRow_other _ b x _ hx) (by simp [World.setRow]) rfl rfl rfl (setRow_heap w b CS _ eC (0,0) hb) ?_ ?_ hroom ?_ ?_
 ·rw [a0N hle];exact hfit
 ·exact c7U hle hcl hcs
 ·simp only [List.length_append,hvl,hcl];omega
 ·intro v hv
  rcases List.mem_append.1 hv with h | h
  ·exact h1c v h
  ·exact h1v v h
set_option maxHeartbeats 4000000 in
set_option maxRecDepth 100000 in
theorem d1w {w:World} {b off n c vb voff vc:Nat} {cs vs:List Value} (hs:RowAt w b off n c 11 cs) (hv:RowAt w vb voff 1 vc 11 vs) (hroom:c < n+1) (hn:(n+1)*136≤140737488355328) :
  Calls Tryz.prog 136 #[.slice (some ⟨b,off,none⟩) n c,.int .i64 n,.slice (some ⟨vb,voff,none⟩) 1 vc] w fun e w'=>G3 w w' (·=b) e (n+1) 11 (cs ++ vs):=by
 obtain ⟨⟨CS,eC,hb,hfit,hcs⟩,hnc,hcl,h1c⟩:=hs
 obtain ⟨⟨VS,eV,hvb,hvf,hvs⟩,hvc,hvl,h1v⟩:=hv
 obtain ⟨i0,hi0,hz0,hzs,hzb⟩:∃ i0:TypeInfo,Tryz.prog.info? 122=some i0∧(∃ z,i0.zero=some z∧z.cells.size=11)∧i0.size=11∧i0.bytes=136:=⟨_,rfl,⟨_,rfl,by kernel_rfl⟩,by kernel_rfl,by kernel_rfl⟩
 obtain ⟨z,hz,hzl⟩:=hz0
 obtain ⟨G,hG⟩:∃ G,G=grownCap w (n+1) c 122:=⟨_,rfl⟩
 have hge:n+1≤G:=by rw [hG];exact a8H w (n+1) c 122
 obtain ⟨ROW,hROW⟩:∃ ROW:Array Value,ROW=cs.toArray ++ vs.toArray ++ Builtin.zeroCells z.cells (G - (n+1)):=⟨_,rfl⟩
 have hap:∀ ty,(Builtin.append_ #[34,34] ty #[.slice (some ⟨b,off,none⟩) n c,.slice (some ⟨vb,voff,none⟩) 1 vc]).run Tryz.prog w=.ok (.slice (some ⟨w.heap.size,0,none⟩) (n+1) G) (w.drew.alloc (.cells ROW 122)):=fun ty=>by
  rw [hROW,hG]
  exact run_append_grow w 34 ty 122 i0 z Tryz.underlying34 hi0 hz ⟨b,off,none⟩ n c cs (by rw [hzs];exact hcl) (fun j v hj=>by simp [World.cell?,Addr.add_lit,hb,hcs j v hj]) ⟨vb,voff,none⟩ 1 vc vs (by rw [hzs];exact hvl) (fun j v hj=>by simp [World.cell?,Addr.add_lit,hvb,hvs j v hj]) hroom (by omega) (by rw [hzb];exact growslice_fits hroom hn)
 have hf:G*11≤ROW.size:=by
  rw [hROW]
  simp only [Array.size_append,List.size_toArray,size_zeroCells,hzl,hcl,hvl,← Nat.add_mul]
  exact Nat.mul_le_mul_right _ (by omega)
 have hc:∀ (j:Nat) v,(cs ++ vs)[j]?=some v→ROW[j]?=some v:=fun j v hj=>by
  rw [hROW,Array.getElem?_append_left (by simpa using (List.getElem?_eq_some_iff.1 hj).1)]
  simpa using hj
 have hl:(cs ++ vs).length=(n+1)*11:=by simp only [List.length_append,hvl,hcl];omega
 have h1:∀ v∈cs ++ vs,v.oneCell'=true:=fun v hv=>(List.mem_append.1 hv).elim (h1c v) (h1v v)
 have hR:=G3.new (own:=(·=b)) (w:=w) (w':=w.drew.alloc (.cells ROW 122)) (e:=122) (fun x hx=>(Q4 w _).old x hx) rfl rfl rfl (heap_alloc_new w.drew _) hf hc hge hl h1
 obtain ⟨W1,hW1⟩:∃ W1,W1=w.drew.alloc (.cells ROW 122):=⟨_,rfl⟩
 rw [← hW1] at hap hR
 clear hW1 hf hc hl h1 hROW hG hge
 go_enter Tryz.func136,Tryz.ntmps136
 go_wp2_with (at_builtin;refine D9 _ rfl _ _ 34 34 rfl _ _ rfl rfl (hap _) ?_)
 all_goals (go_ret;exact hR)
set_option maxHeartbeats 4000000 in
set_option maxRecDepth 100000 in
theorem d7T {w:World} {vb voff vc:Nat} {vs:List Value} (hv:RowAt w vb voff 1 vc 11 vs) :
  Calls Tryz.prog 136 #[.slice none 0 0,.int .i64 0,.slice (some ⟨vb,voff,none⟩) 1 vc] w fun e w'=>G3 w w' (fun _=>False) e 1 11 vs:=by
 obtain ⟨⟨VS,eV,hvb,hvf,hvs⟩,hvc,hvl,h1v⟩:=hv
 obtain ⟨i0,hi0,hz0,hzs,hzb⟩:∃ i0:TypeInfo,Tryz.prog.info? 122=some i0∧(∃ z,i0.zero=some z∧z.cells.size=11)∧i0.size=11∧i0.bytes=136:=⟨_,rfl,⟨_,rfl,by kernel_rfl⟩,by kernel_rfl,by kernel_rfl⟩
 obtain ⟨z,hz,hzl⟩:=hz0
 obtain ⟨G,hG⟩:∃ G,G=grownCap w 1 0 122:=⟨_,rfl⟩
 have hge:1≤G:=by rw [hG];exact a8H w 1 0 122
 obtain ⟨ROW,hROW⟩:∃ ROW:Array Value,ROW=vs.toArray ++ Builtin.zeroCells z.cells (G - 1):=⟨_,rfl⟩
 have hap:∀ ty,(Builtin.append_ #[34,34] ty #[.slice none 0 0,.slice (some ⟨vb,voff,none⟩) 1 vc]).run Tryz.prog w=.ok (.slice (some ⟨w.heap.size,0,none⟩) 1 G) (w.drew.alloc (.cells ROW 122)):=fun ty=>by
  rw [hROW,hG]
  exact run_append_nil w 34 ty 122 i0 z Tryz.underlying34 hi0 hz ⟨vb,voff,none⟩ 1 vc vs (by rw [hzs];exact hvl) (fun j v hj=>by simp [World.cell?,Addr.add_lit,hvb,hvs j v hj]) (by omega) (by omega) (by rw [hzb];omega)
 have hf:G*11≤ROW.size:=by
  rw [hROW]
  simp only [Array.size_append,List.size_toArray,size_zeroCells,hzl,hvl,← Nat.add_mul]
  exact Nat.mul_le_mul_right _ (by omega)
 have hc:∀ (j:Nat) v,vs[j]?=some v→ROW[j]?=some v:=fun j v hj=>by
  rw [hROW,Array.getElem?_append_left (by simpa using (List.getElem?_eq_some_iff.1 hj).1)]
  simpa using hj
 have hR:=G3.new (own:=fun _=>False) (w:=w) (w':=w.drew.alloc (.cells ROW 122)) (e:=122) (fun x hx=>(Q4 w _).old x hx) rfl rfl rfl (heap_alloc_new w.drew _) hf hc hge hvl h1v
 obtain ⟨W1,hW1⟩:∃ W1,W1=w.drew.alloc (.cells ROW 122):=⟨_,rfl⟩
 rw [← hW1] at hap hR
 clear hW1 hf hc hROW hG hge
 go_enter Tryz.func136,Tryz.ntmps136
 go_wp2_with (at_builtin;refine D9 _ rfl _ _ 34 34 rfl _ _ rfl rfl (hap _) ?_)
 all_goals (go_ret;exact hR)
set_option maxHeartbeats 4000000 in
set_option maxRecDepth 100000 in
theorem d3O {w:World} {b off n c i vb voff vc:Nat} {cs vs:List Value} (hs:RowAt w b off n c 11 cs) (hv:RowAt w vb voff 1 vc 11 vs) (hi:i < n) (hroom:c < n+1) (hn:(n+1)*136≤140737488355328) :
  Calls Tryz.prog 136 #[.slice (some ⟨b,off,none⟩) n c,.int .i64 i,.slice (some ⟨vb,voff,none⟩) 1 vc] w fun e w'=>G3 w w' (·=b) e (n+1) 11 (cs.take (i*11) ++ vs ++ cs.drop (i*11)):=by
 obtain ⟨⟨CS,eC,hb,hfit,hcs⟩,hnc,hcl,h1c⟩:=hs
 obtain ⟨⟨VS,eV,hvb,hvf,hvs⟩,hvc,hvl,h1v⟩:=hv
 obtain ⟨i0,hi0,hz0,hzs,hzb⟩:∃ i0:TypeInfo,Tryz.prog.info? 122=some i0∧(∃ z,i0.zero=some z∧z.cells.size=11)∧i0.size=11∧i0.bytes=136:=⟨_,rfl,⟨_,rfl,by kernel_rfl⟩,by kernel_rfl,by kernel_rfl⟩
 obtain ⟨z,hz,hzl⟩:=hz0
 have hdl:(cs.drop (i*11)).length=(n - i)*11:=by rw [List.length_drop,hcl];omega
 have hw1:IntKind.i64.wrap ((i:Int)+1)=(i:Int)+1:=by rw [IntKind.wrap_i64];omega
 have hw2:IntKind.i64.wrap ((n:Int)+1 - (i:Int))=((n+1 - i:Nat):Int):=by rw [IntKind.wrap_i64];omega
 have hw3:(n:Int)+1 - (i:Int)=((n+1 - i:Nat):Int):=by omega
 have hz2:¬ ((i:Int)=(n:Int)):=by omega
 have hz3:(c:Int) < (n:Int)+1:=by omega
 have hin:i≤n:=by omega
 have hic:i≤c:=by omega
 have hik:i+(n+1 - i)=n+1:=by omega
 have htn:((i:Int)+1).toNat=i+1:=by omega
 have hb1:(0:Int)≤(i:Int)+1:=by omega
 have hb3:(i:Int)≤(n:Int)+1:=by omega
 have h1d:∀ v∈cs.drop (i*11),v.oneCell'=true:=fun v hv=>h1c v (List.mem_of_mem_drop hv)
 have hold:(Builtin.firstCells i0.size i (.slice (some ⟨b,off,none⟩) i c)).run Tryz.prog w.drew=.ok (cs.take (i*11)).toArray w.drew:=by
  rw [hzs]
  exact run_firstCells_some w.drew 11 i ⟨b,off,none⟩ i c (cs.take (i*11)) (by rw [List.length_take];omega) fun j v hj=>by
   rw [List.getElem?_take] at hj
   split at hj
   ·simp [World.cell?,Addr.add_lit,show w.drew.heap[b]?=_ from hb,hcs j v hj]
   ·cases hj
 obtain ⟨G,hG⟩:∃ G,G=grownCap w (n+1) c 122:=⟨_,rfl⟩
 have hge:n+1≤G:=by rw [hG];exact a8H w (n+1) c 122
 obtain ⟨ROW,hROW⟩:∃ ROW:Array Value,ROW=(cs.take (i*11)).toArray ++ Builtin.zeroCells z.cells (n+1 - i) ++ Builtin.zeroCells z.cells (G - (n+1)):=⟨_,rfl⟩
 have hap:∀ ty,(Builtin.append_ #[34,3] ty #[.slice (some ⟨b,off,none⟩) i c,.int .i64 ((n+1 - i:Nat):Int)]).run Tryz.prog w=.ok (.slice (some ⟨w.heap.size,0,none⟩) (n+1) G) (w.drew.alloc (.cells ROW 122)):=fun ty=>by
  have:=Lib.run_append_grow_zeros w 34 3 ty 122 i0 z .i64 .i64 Tryz.underlying34 Tryz.underlying3 hi0 hz (some ⟨b,off,none⟩) i c (cs.take (i*11)) hold (n+1 - i) (by omega) (by rw [hzs];omega) (by omega) (by omega) (by rw [hzb];omega) (by rw [hzb,hik];exact growslice_fits hroom hn)
  rw [hik] at this
  rw [hROW,hG]
  exact this
 have hRl:ROW.size=G*11:=by
  rw [hROW]
  simp only [Array.size_append,List.size_toArray,size_zeroCells,hzl,List.length_take,hcl]
  omega
 have hR0:∀ (j:Nat) v,(cs.take (i*11))[j]?=some v→ROW[j]?=some v:=fun j v hj=>by
  rw [hROW,Array.getElem?_append_left (by have:=(List.getElem?_eq_some_iff.1 hj).1;simp only [Array.size_append,List.size_toArray];omega),Array.getElem?_append_left (by simpa using (List.getElem?_eq_some_iff.1 hj).1)]
  simpa using hj
 have hbw:=a8G hb
 have hvw:=a8G hvb
 have hnew:(w.drew.alloc (.cells ROW 122)).heap[w.heap.size]?=some (.cells ROW 122 (0,0)):=heap_alloc_new w.drew _
 have hvb1:(w.drew.alloc (.cells ROW 122)).heap[vb]?=some (.cells VS eV (0,0)):=((Q4 w _).old vb hvw).trans hvb
 have hb1':(w.drew.alloc (.cells ROW 122)).heap[b]?=some (.cells CS eC (0,0)):=((Q4 w _).old b hbw).trans hb
 obtain ⟨W1,hW1⟩:∃ W1,W1=w.drew.alloc (.cells ROW 122):=⟨_,rfl⟩
 rw [← hW1] at hap hnew hvb1 hb1'
 have hle:i*11+vs.length≤ROW.size:=by rw [hvl,hRl];omega
 have hcp1:∀ ty dc,(Builtin.copy_ #[34,34] ty #[.slice (some ⟨w.heap.size,i*11,none⟩) (n+1 - i) dc,.slice (some ⟨vb,voff,none⟩) 1 vc]).run Tryz.prog W1=.ok (goInt (1:Nat)) (W1.setRow w.heap.size (spl ROW (i*11) vs)):=fun ty dc =>
  a1B W1 34 34 ty 122 122 11 Tryz.underlying34 (by kernel_rfl) w.heap.size _ _ dc ROW hnew ⟨vb,voff,none⟩ 1 vc 1 vs (by simp only [Nat.min_def];split <;> omega) hvl
   (fun j v hj=>by simp [World.cell?,Addr.add_lit,hvb1,hvs j v hj]) hle h1v
 obtain ⟨W2,hW2⟩:∃ W2,W2=W1.setRow w.heap.size (spl ROW (i*11) vs):=⟨_,rfl⟩
 have hnew2:W2.drew.heap[w.heap.size]?=some (.cells (spl ROW (i*11) vs) 122 (0,0)):=by rw [hW2];exact setRow_heap W1 _ ROW _ 122 (0,0) hnew
 have hb2':W2.drew.heap[b]?=some (.cells CS eC (0,0)):=by rw [hW2];exact (setRow_other W1 _ b _ (by omega)).trans hb1'
 rw [← hW2] at hcp1
 have hs1:=a0N hle
 have hle2:(i+1)*11+(cs.drop (i*11)).length≤(spl ROW (i*11) vs).size:=by rw [hdl,hs1,hRl];omega
 have hcp2:∀ ty dc sc,(Builtin.copy_ #[34,34] ty #[.slice (some ⟨w.heap.size,(i+1)*11,none⟩) (n - i) dc,.slice (some ⟨b,off+i*11,none⟩) (n - i) sc]).run Tryz.prog W2.drew=.ok (goInt (n - i:Nat)) (W2.drew.setRow w.heap.size (spl (spl ROW (i*11) vs) ((i+1)*11) (cs.drop (i*11)))):=fun ty dc sc =>
  a1B W2.drew 34 34 ty 122 122 11 Tryz.underlying34 (by kernel_rfl) w.heap.size _ _ dc _ hnew2 ⟨b,off+i*11,none⟩ _ sc (n - i) (cs.drop (i*11)) (by simp only [Nat.min_def];split <;> omega) hdl
   (fun j v hj=>by
    rw [List.getElem?_drop] at hj
    have:=hcs _ v hj
    rw [← Nat.add_assoc] at this
    simp [World.cell?,Addr.add_lit,hb2',this]) hle2 h1d
 have hot:∀ x,x < w.heap.size→(W2.drew.setRow w.heap.size (spl (spl ROW (i*11) vs) ((i+1)*11) (cs.drop (i*11)))).heap[x]?=w.heap[x]?:=fun x hx=>by
  rw [setRow_other _ _ x _ (by omega),hW2]
  exact ((setRow_other W1 _ x _ (by omega)).trans (by rw [hW1];exact (Q4 w _).old x hx))
 have hl:(cs.take (i*11) ++ vs ++ cs.drop (i*11)).length=(n+1)*11:=by simp only [List.length_append,List.length_take,hdl,hvl,hcl];omega
 have h1:∀ v∈cs.take (i*11) ++ vs ++ cs.drop (i*11),v.oneCell'=true:=fun v hv=>by
  rcases List.mem_append.1 hv with h | h
  ·rcases List.mem_append.1 h with h | h
   ·exact h1c v (List.mem_of_mem_take h)
   ·exact h1v v h
  ·exact h1d v h
 have hR:=G3.new (own:=(·=b)) (w:=w) (e:=122) (CS:=spl (spl ROW (i*11) vs) ((i+1)*11) (cs.drop (i*11))) hot (by rw [hW2,hW1];rfl) (by rw [hW2,hW1];rfl) (by rw [hW2,hW1];rfl) (setRow_heap W2.drew _ _ _ 122 (0,0) hnew2) (by rw [a0N hle2,hs1,hRl];exact Nat.le_refl _) (c4z hle hle2 hi hcl hvl hR0) hge hl h1
 obtain ⟨W3,hW3⟩:∃ W3,W3=W2.drew.setRow w.heap.size (spl (spl ROW (i*11) vs) ((i+1)*11) (cs.drop (i*11))):=⟨_,rfl⟩
 rw [← hW3] at hcp2 hR
 have hb5:¬ (G=i):=by omega
 have hb6:¬ (G=i+1):=by omega
 have hb7:¬ (c=i):=by omega
 clear hW3 hW2 hW1 hot hl h1 hnew2 hb2' hnew hvb1 hb1' hROW hR0 hRl hle2 hs1 hle hG hold
 go_enter Tryz.func136,Tryz.ntmps136
 go_wp2_with (first
  | (at_builtin;refine D9 _ rfl _ _ 34 3 rfl _ _ rfl rfl (hap _) ?_)
  | (at_builtin;refine a1R _ rfl _ _ 34 34 rfl _ _ rfl rfl (hcp1 _ _) ?_))
 go_region_law (refine a4l rfl _ _ 34 34 rfl _ _ (by simp [Act.eval,Act.put]) (by simp [Act.eval,Act.put]) (hcp2 _ _ _) ?_)
 go_wp2
 go_ret
 exact hR
theorem d7U {w:World} {b off n c i vb voff vc:Nat} {cs vs:List Value} (hs:RowAt w b off n c 11 cs) (hv:RowAt w vb voff 1 vc 11 vs) (hne:vb≠b) (hi:i≤n) (hn:(n+1)*136≤140737488355328) :
  Calls Tryz.prog 136 #[.slice (some ⟨b,off,none⟩) n c,.int .i64 i,.slice (some ⟨vb,voff,none⟩) 1 vc] w fun e w'=>G3 w w' (·=b) e (n+1) 11 (cs.take (i*11) ++ vs ++ cs.drop (i*11)):=by
 by_cases h:i < n
 ·by_cases h2:n+1≤c
  ·exact d1v hs hv hne h h2 (by omega)
  ·exact d3O hs hv h (by omega) hn
 ·obtain rfl:i=n:=by omega
  rw [List.take_of_length_le (by rw [hs.len];exact Nat.le_refl _),List.drop_eq_nil_of_le (by rw [hs.len];exact Nat.le_refl _),List.append_nil]
  by_cases h2:i+1≤c
  ·exact d7S hs hv h2 (by omega)
  ·exact d1w hs hv (by omega) hn
end Go.Mach
namespace Go.Mach.F
open Go Go.Mach Go.Proofs.Tryz Go.IntKind
--=set_option maxRecDepth 100000
def b3P:Nat:=141
noncomputable abbrev c7V:Func:=f141
def d7V:List (Nat × List Nat):=[(0,[4,8,9]),(1,[12])]
noncomputable def c7W:Ent:=inl [0,0] prog (b3 []) d7V 0 c7V
theorem e0Y:d8 prog b3P c7W:=p6 b5 d9 (c:=d3 c7V) func141 (by kernel_rfl) (b8 (by kernel_rfl))
def rof (l:List Rm) (h:Hd):Int:=match (List.range l.length).find? (fun i=>decide (l[i]?.map Rm.h=some h)) with
 | some i=>(i:Int)
 | none=>-1
theorem e6X (x:Rm) (h:Hd):(decide (x.h.slot=h.slot∧x.h.gen=h.gen))=decide (some x.h=some h):=by
 refine decide_eq_decide.2 ?_
 rcases x with ⟨⟨_,_⟩,_⟩
 rcases h with ⟨_,_⟩
 simp
def a4m (x:List Rm × Hd):Prop:=x.1.length≤LM
def a1l (x:List Rm × Hd):List Arg:=[aT (eL 11 Rm.cs x.1),aF b3P x.2.cs]
def b9s (x:List Rm × Hd):Int:=rof x.1 x.2
noncomputable def c4A:Ent:=ent [] a4m a1l (erI 2) b9s
theorem c1B (x y:List Rm × Hd) (h:a1l x=a1l y):x=y:=by
 obtain ⟨l1,h1⟩:=x
 obtain ⟨l2,h2⟩:=y
 simp only [a1l,List.cons.injEq,and_true,true_and] at h
 obtain ⟨e0,e1⟩:=h
 obtain rfl:=m8 Rm.cs_inj (K7 e0)
 obtain rfl:=Hd.cs_ext (c4x (by rfl) e1)
 rfl
theorem e8V {l:List Rm} {h:Hd} (h0:a4m (l,h)):dom a4m a1l [(0,false,[C.tr false (T.arr 11 l.length (atL Rm.cs l))]),(0,false,[C.fn 141 [Pt.pim 2 (v3 [T.int i64 h.slot,T.int i64 h.gen])]])]=true:=i3 (ea:=a1l) (x:=(l,h)) h0
theorem e8W {l:List Rm} {h:Hd} (h0:a4m (l,h)):inv a4m a1l [(0,false,[C.tr false (T.arr 11 l.length (atL Rm.cs l))]),(0,false,[C.fn 141 [Pt.pim 2 (v3 [T.int i64 h.slot,T.int i64 h.gen])]])]=(l,h):=g9 c1B (x:=(l,h)) h0
theorem f1w (l:List Rm) (h:Hd):b9s (l,h)=rof l h:=rfl
def c4B:Nat:=134
noncomputable abbrev a9U:Func:=f134
def a6J:List (Nat × List Nat):=[(0,[0,4]),(1,[0,4,28,32]),(2,[0,4,28,32,36]),(3,[0,4,20,28,32]),(4,[0,4,20,28,32,64]),(5,[16]),(6,[0,4,28,32]),(7,[16])]
def c6z:List Nat:=[0,0]
def a6K (l:List Rm) (h:Hd) (x32:Int):St:=[(0,⟨z0,[(false,[.tr false (eL 11 Rm.cs l)])]⟩),(4,⟨z0,[(false,[(C.fn 141 [Pt.pim [T.int i64 h.1,T.int i64 h.2].length (v3 [T.int i64 h.1,T.int i64 h.2])])])]⟩),vi 7 (↑l.length:Int),vi 8 x32]
def b4M (l:List Rm) (h:Hd) (x32:Int):St:=[vi 4 x32]
def b4N (l:List Rm) (h:Hd) (x32:Int):St:=[(0,⟨z0,[(false,[.tr false (eL 11 Rm.cs l)])]⟩),(4,⟨z0,[(false,[(C.fn 141 [Pt.pim [T.int i64 h.1,T.int i64 h.2].length (v3 [T.int i64 h.1,T.int i64 h.2])])])]⟩),vi 7 (↑l.length:Int),vi 8 x32,ve 36]
noncomputable abbrev tb9:Sems:=b3 [(b3P,c7W)]
theorem b9t (l:List Rm) (h:Hd) (x32:Int) (n:Nat) (K:Ex→St→Res):i8 prog tb9 a6J a9U [1,0,1,0] n (a6K l h x32) K=(bif decide (x32 < (↑l.length:Int)) then gd (decide (0≤x32)&&(x32.toNat.blt l.length&&true))<|gd (T.isI i64 (atL Rm.cs l x32.toNat 0)&&T.isI i64 (atL Rm.cs l x32.toNat 1)&&T.isI i64 (atL Rm.cs l x32.toNat 2)&&T.isI i64 (atL Rm.cs l x32.toNat 3)&&((atL Rm.cs l x32.toNat 4).isArr&&(atL Rm.cs l x32.toNat 4).wd.beq 2)&&T.isI i64 (atL Rm.cs l x32.toNat 5)&&T.isI i64 (atL Rm.cs l x32.toNat 6)&&(atL Rm.cs l x32.toNat 7).isB&&T.isI i64 (atL Rm.cs l x32.toNat 8)&&((atL Rm.cs l x32.toNat 9).isArr&&(atL Rm.cs l x32.toNat 9).wd.beq 1)&&((atL Rm.cs l x32.toNat 10).isArr&&(atL Rm.cs l x32.toNat 10).wd.beq 1))<|bif bif (atL Rm.cs l x32.toNat 0).toI==(T.int i64 h.1).toI then bif (atL Rm.cs l x32.toNat 1).toI==(T.int i64 h.2).toI then true else false else false then K .ret (b4M l h x32) else K .normal (a6K l h (i64.wrap (x32+1))) else K (.exit 0) (b4N l h x32)):=by kernel_rfl
theorem c8M (l:List Rm) (h:Hd) (x32:Int) (n:Nat):d5 prog tb9 a6J a9U c6z [1,0,1,0] [] n .ret (b4M l h x32)=(some ([(false,[.tr true (T.int i64 x32)])],(nu 2))):=by kernel_rfl
theorem c8N (l:List Rm) (h:Hd) (x32:Int) (n:Nat):d5 prog tb9 a6J a9U c6z [1,0,1,0] [] n (.exit 0) (b4N l h x32)=(some ([(false,[.tr true (T.int i64 (-1))])],(nu 2))):=by kernel_rfl
theorem e4X (l:List Rm) (h:Hd) (n:Nat):body prog tb9 a6J n a9U [aT (eL 11 Rm.cs l),aF b3P h.cs]=(j5 prog tb9 a6J a9U [1,0,1,0] n n (a6K l h (0)) (d5 prog tb9 a6J a9U c6z [1,0,1,0] [] n)):=by kernel_rfl
theorem e0Z (l:List Rm) (h:Hd) (h0:a4m (l,h)):body prog tb9 a6J (l.length+1) a9U (a1l (l,h))=some (erI 2 (b9s (l,h))):=by
 have hlm:=lm
 have hl:l.length≤LM:=h0
 unfold a1l b9s
 try dsimp only
 rw [e4X]
 have hst:a6K l h 0=(fun i:Nat=>a6K l h (i:Nat)) 0:=rfl
 rw [hst,a6j l.length (fun i:Nat=>a6K l h (i:Nat)) (b4N l h l.length) 0 (fun i=>decide (l[i]?.map Rm.h=some h)) .ret (fun e=>by cases e) (fun i:Nat=>b4M l h (i:Nat)) (fun i K hi=>?_) (fun K=>?_) _ (Nat.le_refl _)]
 ·unfold rof
  cases (List.range l.length).find? (fun i=>decide (l[i]?.map Rm.h=some h)) with
  | none=>exact (c8N l h _ _).trans rfl
  | some i=>exact (c8M l h _ _).trans rfl
 ·have hx:=List.getElem?_eq_getElem hi
  rw [b9t]
  simp (disch:=omega) only [f4,hi,d6 hx,hx,Option.map_some,Rm.cs,o3,A1,a6F,a6G,Bool.and_true,a6H,e6X]
 ·rw [b9t]
  simp only [p8,Nat.lt_irrefl,decide_false,cond_false]
theorem f1x:d8 prog c4B c4A:=g8 c1B fun x hx =>
 b9 (φ:=tb9) (a9 e0Y b5) d9 (kp:=a6J) (n:=x.1.length+1) func134 (c:=d3 a9U) (by kernel_rfl) (e0Z x.1 x.2 hx) (b8 (by kernel_rfl))
def u5 (x:Ml × Hd):Prop:=x.1.rooms.length≤LM
def w9 (x:Ml × Hd):List Arg:=[aR x.1.cs,aR x.2.cs]
def H2 (x:Ml × Hd):Int:=rof x.1.rooms x.2
noncomputable def Q5:Ent:=ent [] u5 w9 (erI 2) H2
theorem b5P (x y:Ml × Hd) (h:w9 x=w9 y):x=y:=by
 obtain ⟨m1,h1⟩:=x
 obtain ⟨m2,h2⟩:=y
 simp only [w9,List.cons.injEq,and_true,true_and] at h
 obtain ⟨e0,e1⟩:=h
 obtain rfl:=Ml.cs_ext (j6 e0)
 obtain rfl:=Hd.cs_ext (j6 e1)
 rfl
theorem a1S {m:Ml} {h:Hd} (h0:u5 (m,h)):dom u5 w9 [(wMl m),(wHd h)]=true:=i3 (ea:=w9) (x:=(m,h)) h0
theorem a1T {m:Ml} {h:Hd} (h0:u5 (m,h)):inv u5 w9 [(wMl m),(wHd h)]=(m,h):=g9 b5P (x:=(m,h)) h0
theorem a3n (m:Ml) (h:Hd):H2 (m,h)=rof m.rooms h:=rfl
def Q6:Nat:=171
noncomputable abbrev a1C:Func:=f171
def a0x:List (Nat × List Nat):=[(0,kq [5,7]),(1,kq [5,7,10]),(2,kq [5,7,10,20]),(3,kq [5,7,10]),(4,kq [5,7,10,40]),(5,[16]),(6,[16])]
def b6S:List Nat:=[0,0]
def a1m (m:Ml) (h:Hd) (x20:Int):St:=[vp 2 8,vb 2 [ci m.c.1,ci m.c.2,ci m.c.3,ci m.c.4,ci m.c.5,ci m.c.6,.tr false (eL 11 Rm.cs m.2),.tr false (eL 1 b6 m.3)],vp 3 2,vb 3 [ci h.1,ci h.2],vi 5 x20]
def a8I (m:Ml) (h:Hd) (x20:Int):St:=[vi 4 x20]
def a8J (m:Ml) (h:Hd) (x20:Int):St:=[vp 2 8,vb 2 [ci m.c.1,ci m.c.2,ci m.c.3,ci m.c.4,ci m.c.5,ci m.c.6,.tr false (eL 11 Rm.cs m.2),.tr false (eL 1 b6 m.3)],vp 3 2,vb 3 [ci h.1,ci h.2],vi 5 x20,ve 40]
theorem b3Q (m:Ml) (h:Hd) (x20:Int) (n:Nat) (K:Ex→St→Res):i8 prog (b3 []) a0x a1C [1,0,1,0] n (a1m m h x20) K=(bif decide (x20 < (↑m.2.length:Int)) then gd (decide (0≤x20)&&(x20.toNat.blt m.2.length&&true))<|gd (T.isI i64 (atL Rm.cs m.2 x20.toNat 0)&&T.isI i64 (atL Rm.cs m.2 x20.toNat 1))<|bif bif (atL Rm.cs m.2 x20.toNat 0).toI==h.1 then bif (atL Rm.cs m.2 x20.toNat 1).toI==h.2 then true else false else false then K .ret (a8I m h x20) else K .normal (a1m m h (i64.wrap (x20+1))) else K (.exit 0) (a8J m h x20)):=by kernel_rfl
theorem c2K (m:Ml) (h:Hd) (x20:Int) (n:Nat):d5 prog (b3 []) a0x a1C b6S [1,0,1,0] [] n .ret (a8I m h x20)=(some ([(false,[.tr true (T.int i64 x20)])],(nu 2))):=by kernel_rfl
theorem c2L (m:Ml) (h:Hd) (x20:Int) (n:Nat):d5 prog (b3 []) a0x a1C b6S [1,0,1,0] [] n (.exit 0) (a8J m h x20)=(some ([(false,[.tr true (T.int i64 (-1))])],(nu 2))):=by kernel_rfl
theorem d3P (m:Ml) (h:Hd) (n:Nat):body prog (b3 []) a0x n a1C [aR m.cs,aR h.cs]=(j5 prog (b3 []) a0x a1C [1,0,1,0] n n (a1m m h (0)) (d5 prog (b3 []) a0x a1C b6S [1,0,1,0] [] n)):=by kernel_rfl
theorem d1x (m:Ml) (h:Hd) (h0:u5 (m,h)):body prog (b3 []) a0x (m.rooms.length+1) a1C (w9 (m,h))=some (erI 2 (H2 (m,h))):=by
 have hlm:=lm
 have hl:m.rooms.length≤LM:=h0
 unfold w9 H2
 try dsimp only
 rw [d3P]
 have hst:a1m m h 0=(fun i:Nat=>a1m m h (i:Nat)) 0:=rfl
 rw [hst,a6j m.rooms.length (fun i:Nat=>a1m m h (i:Nat)) (a8J m h m.rooms.length) 0 (fun i=>decide (m.rooms[i]?.map Rm.h=some h)) .ret (fun e=>by cases e) (fun i:Nat=>a8I m h (i:Nat)) (fun i K hi=>?_) (fun K=>?_) _ (Nat.le_refl _)]
 ·unfold rof
  cases (List.range m.rooms.length).find? (fun i=>decide (m.rooms[i]?.map Rm.h=some h)) with
  | none=>exact (c2L m h _ _).trans rfl
  | some i=>exact (c2K m h _ _).trans rfl
 ·have hx:=List.getElem?_eq_getElem hi
  rw [b3Q]
  simp (disch:=omega) only [f4,hi,d6 hx,hx,Option.map_some,Rm.cs,o3,A1,a6F,a6G,Bool.and_true,a6H,e6X]
 ·rw [b3Q]
  simp only [p8,Nat.lt_irrefl,decide_false,cond_false]
theorem a9V:d8 prog Q6 Q5:=g8 b5P fun x hx =>
 b9 (φ:=(b3 [])) b5 d9 (kp:=a0x) (n:=x.1.rooms.length+1) func171 (c:=d3 a1C) (by kernel_rfl) (d1x x.1 x.2 hx) (b8 (by kernel_rfl))
def z3 (x:Ml × Hd):Prop:=x.1.rooms.length≤LM
def B7 (x:Ml × Hd):List Arg:=[aR x.1.cs,aR x.2.cs]
def W5 (x:Ml × Hd):Int:=rof x.1.rooms x.2
noncomputable def Q7:Ent:=ent [] z3 B7 (erI 2) W5
theorem b5Q (x y:Ml × Hd) (h:B7 x=B7 y):x=y:=by
 obtain ⟨m1,h1⟩:=x
 obtain ⟨m2,h2⟩:=y
 simp only [B7,List.cons.injEq,and_true,true_and] at h
 obtain ⟨e0,e1⟩:=h
 obtain rfl:=Ml.cs_ext (j6 e0)
 obtain rfl:=Hd.cs_ext (j6 e1)
 rfl
theorem a1U {m:Ml} {h:Hd} (h0:z3 (m,h)):dom z3 B7 [(wMl m),(wHd h)]=true:=i3 (ea:=B7) (x:=(m,h)) h0
theorem a1V {m:Ml} {h:Hd} (h0:z3 (m,h)):inv z3 B7 [(wMl m),(wHd h)]=(m,h):=g9 b5Q (x:=(m,h)) h0
theorem a3o (m:Ml) (h:Hd):W5 (m,h)=rof m.rooms h:=rfl
def Q8:Nat:=86
noncomputable abbrev b9u:Func:=f86
def b6T:List (Nat × List Nat):=[(0,kq [5,7]),(1,[16])]
theorem d3Q (m:Ml) (h:Hd) (n:Nat):body prog (b3 [(c4B,c4A)]) b6T n b9u [aR m.cs,aR h.cs]=(gd (dom a4m a1l [(0,false,[C.tr false (eL 11 Rm.cs m.2)]),(0,false,[C.fn 141 [Pt.pim 2 (v3 [T.int i64 h.1,T.int i64 h.2])]])])<|some ([(false,[.tr true (T.int i64 (b9s (inv a4m a1l [(0,false,[C.tr false (eL 11 Rm.cs m.2)]),(0,false,[C.fn 141 [Pt.pim 2 (v3 [T.int i64 h.1,T.int i64 h.2])]])])))])],(nu 2))):=by kernel_rfl
theorem d1y (m:Ml) (h:Hd) (n:Nat) (h0:z3 (m,h)):body prog (b3 [(c4B,c4A)]) b6T n b9u (B7 (m,h))=some (erI 2 (W5 (m,h))):=by
 have c:a4m (m.rooms,h):=h0
 unfold B7 W5
 try dsimp only
 rw [d3Q]
 try simp only [l7,e8V c,e8W c,f1w,gdt]
 rfl
theorem a9W:d8 prog Q8 Q7:=g8 b5Q fun x hx =>
 b9 (φ:=(b3 [(c4B,c4A)])) (a9 f1x b5) d9 (kp:=b6T) (n:=0) func86 (c:=d3 b9u) (by kernel_rfl) (d1y x.1 x.2 (0) hx) (b8 (by kernel_rfl))
end Go.Mach.F
namespace Go.Mach.F
open Go Go.Mach Go.Proofs.Tryz Go.IntKind
--=set_option maxRecDepth 100000
def dpn (l:List Rm):Nat→Hd→Nat
 | 0,_=>0
 | n+1,h=>match l[(rof l h).toNat]? with
  | some x=>bif decide (0≤rof l h) then dpn l n x.up+1 else 0
  | none=>0
theorem b1o {l:List Rm} {h:Hd} (e:0≤rof l h):(rof l h).toNat < l.length:=by
 unfold rof at e ⊢
 cases hf:(List.range l.length).find? (fun i=>decide (l[i]?.map Rm.h=some h)) with
 | none=>rw [hf] at e;simp at e
 | some i =>
  have:=List.mem_of_find?_eq_some hf
  simpa using this
def a0y (x:Ml × Hd):Prop:=x.1.rooms.length≤LM
def S3 (x:Ml × Hd):List Arg:=[aR x.1.cs,aR x.2.cs]
def a9X (x:Ml × Hd):Int:=((dpn x.1.rooms x.1.rooms.length x.2:Nat):Int)
noncomputable def c7X:Ent:=ent [] a0y S3 (erI 2) a9X
theorem b5R (x y:Ml × Hd) (h:S3 x=S3 y):x=y:=by
 obtain ⟨m1,h1⟩:=x
 obtain ⟨m2,h2⟩:=y
 simp only [S3,List.cons.injEq,and_true,true_and] at h
 obtain ⟨e0,e1⟩:=h
 obtain rfl:=Ml.cs_ext (j6 e0)
 obtain rfl:=Hd.cs_ext (j6 e1)
 rfl
theorem d7W {m:Ml} {h:Hd} (h0:a0y (m,h)):dom a0y S3 [(wMl m),(wHd h)]=true:=i3 (ea:=S3) (x:=(m,h)) h0
theorem d7X {m:Ml} {h:Hd} (h0:a0y (m,h)):inv a0y S3 [(wMl m),(wHd h)]=(m,h):=g9 b5R (x:=(m,h)) h0
theorem e1a (m:Ml) (h:Hd):a9X (m,h)=((dpn m.rooms m.rooms.length h:Nat):Int):=rfl
def c7Y:Nat:=115
noncomputable abbrev W6:Func:=f115
def S4:List (Nat × List Nat):=[(0,kq [5,7]),(1,kq [5,7,10]),(2,kq [5,7,10,22]),(3,kq [5,7,10,12]),(4,kq [5,7,10,12,32]),(5,[16]),(6,kq [5,7,10,12]),(7,kq [5,7,10]),(8,[16])]
def b0Y:List Nat:=[0,0]
def a7H (m:Ml) (h:Hd) (x13_0:Int) (x13_1:Int) (x20:Int):St:=[vp 2 8,vb 2 [ci m.c.1,ci m.c.2,ci m.c.3,ci m.c.4,ci m.c.5,ci m.c.6,.tr false (eL 11 Rm.cs m.2),.tr false (eL 1 b6 m.3)],vp 3 2,vb 3 [ci x13_0,ci x13_1],vi 5 x20]
def b5S (m:Ml) (h:Hd) (x13_0:Int) (x13_1:Int) (x20:Int):St:=[vi 4 x20]
def b5T (m:Ml) (h:Hd) (x13_0:Int) (x13_1:Int) (x20:Int):St:=[vp 2 8,vb 2 [ci m.c.1,ci m.c.2,ci m.c.3,ci m.c.4,ci m.c.5,ci m.c.6,.tr false (eL 11 Rm.cs m.2),.tr false (eL 1 b6 m.3)],vp 3 2,vb 3 [ci x13_0,ci x13_1],vi 5 x20,ve 44]
noncomputable abbrev b4O:Sems:=b3 [(Q6,Q5)]
theorem b3R (m:Ml) (h:Hd) (x13_0:Int) (x13_1:Int) (x20:Int) (n:Nat) (K:Ex→St→Res):i8 prog b4O S4 W6 [1,1,0,0] n (a7H m h x13_0 x13_1 x20) K=(bif decide (x20 < (↑m.2.length:Int)) then gd (dom u5 w9 [(wMl m),(0,true,[C.tr false (T.int i64 x13_0),C.tr false (T.int i64 x13_1)])])<|bif decide (H2 (inv u5 w9 [(wMl m),(0,true,[C.tr false (T.int i64 x13_0),C.tr false (T.int i64 x13_1)])]) < 0) then K .ret (b5S m h x13_0 x13_1 x20) else gd (decide (0≤H2 (inv u5 w9 [(wMl m),(0,true,[C.tr false (T.int i64 x13_0),C.tr false (T.int i64 x13_1)])]))&&((H2 (inv u5 w9 [(wMl m),(0,true,[C.tr false (T.int i64 x13_0),C.tr false (T.int i64 x13_1)])])).toNat.blt m.2.length&&true))<|gd (T.isI i64 (atL Rm.cs m.2 (H2 (inv u5 w9 [(wMl m),(0,true,[C.tr false (T.int i64 x13_0),C.tr false (T.int i64 x13_1)])])).toNat 2)&&T.isI i64 (atL Rm.cs m.2 (H2 (inv u5 w9 [(wMl m),(0,true,[C.tr false (T.int i64 x13_0),C.tr false (T.int i64 x13_1)])])).toNat 3))<|K .normal (a7H m h ((atL Rm.cs m.2 (H2 (inv u5 w9 [(wMl m),(0,true,[C.tr false (T.int i64 x13_0),C.tr false (T.int i64 x13_1)])])).toNat 2).toI) ((atL Rm.cs m.2 (H2 (inv u5 w9 [(wMl m),(0,true,[C.tr false (T.int i64 x13_0),C.tr false (T.int i64 x13_1)])])).toNat 3).toI) (i64.wrap (x20+1))) else K (.exit 0) (b5T m h x13_0 x13_1 x20)):=by kernel_rfl
theorem c2M (m:Ml) (h:Hd) (x13_0:Int) (x13_1:Int) (x20:Int) (n:Nat):d5 prog b4O S4 W6 b0Y [1,1,0,0] [] n .ret (b5S m h x13_0 x13_1 x20)=(some ([(false,[.tr true (T.int i64 x20)])],(nu 2))):=by kernel_rfl
theorem c2N (m:Ml) (h:Hd) (x13_0:Int) (x13_1:Int) (x20:Int) (n:Nat):d5 prog b4O S4 W6 b0Y [1,1,0,0] [] n (.exit 0) (b5T m h x13_0 x13_1 x20)=(some ([(false,[.tr true (T.int i64 x20)])],(nu 2))):=by kernel_rfl
theorem d3R (m:Ml) (h:Hd) (n:Nat):body prog b4O S4 n W6 [aR m.cs,aR h.cs]=(j5 prog b4O S4 W6 [1,1,0,0] n n (a7H m h (h.1) (h.2) (0)) (d5 prog b4O S4 W6 b0Y [1,1,0,0] [] n)):=by kernel_rfl
theorem d1z (m:Ml) (h0:Hd) (hl:m.rooms.length≤LM) (n mm:Nat):∀ (k i:Nat) (h:Hd),i+k=m.rooms.length→j5 prog b4O S4 W6 [1,1,0,0] n (k+1+mm) (a7H m h0 h.slot h.gen (i:Nat)) (d5 prog b4O S4 W6 b0Y [1,1,0,0] [] n)=some (erI 2 ((i+dpn m.rooms k h:Nat):Int)):=by
 have hlm:=lm
 intro k
 induction k with
 | zero =>
  intro i h hi
  have e1:0+1+mm=mm+1:=by omega
  have e2:i=m.rooms.length:=by omega
  subst e2
  rw [e1,O1,b3R]
  simp only [p8,Nat.lt_irrefl,decide_false,cond_false]
  exact (c2N m h0 _ _ _ n).trans rfl
 | succ k ih =>
  intro i h hi
  have e1:k+1+1+mm=(k+1+mm)+1:=by omega
  have hi':i < m.rooms.length:=by omega
  rw [e1,O1,b3R]
  by_cases e:0≤rof m.rooms h
  ·have hx:=List.getElem?_eq_getElem (b1o e)
   obtain ⟨x,hxe⟩:∃ x,x=m.rooms[(rof m.rooms h).toNat]'(b1o e):=⟨_,rfl⟩
   rw [← hxe] at hx
   have hb:=b1o e
   have c:u5 (m,h):=hl
   have e':¬ rof m.rooms h < 0:=by omega
   simp (disch:=omega) only [f4,hi',a1S c,a1T c,a3n,decide_eq_false e',cond_false,decide_eq_true e,V6,decide_eq_true hb,d6 hx,Rm.cs,o3]
   have e3:dpn m.rooms (k+1) h=dpn m.rooms k x.up+1:=by
    simp only [dpn,hx,decide_eq_true e,cond_true]
   rw [e3,show i+(dpn m.rooms k x.up+1)=i+1+dpn m.rooms k x.up by omega]
   exact ih (i+1) x.up (by omega)
  ·have e':rof m.rooms h < 0:=by omega
   have e3:dpn m.rooms (k+1) h=0:=by
    unfold dpn
    cases m.rooms[(rof m.rooms h).toNat]? with
    | none=>rfl
    | some x=>simp only [decide_eq_false e,cond_false]
   rw [e3,Nat.add_zero]
   have c:u5 (m,h):=hl
   simp only [f4,hi',a1S c,a1T c,a3n,decide_eq_true e',decide_eq_false e,cond_true,cond_false]
   exact (c2M m h0 _ _ _ n).trans rfl
theorem d1A (m:Ml) (h:Hd) (h0:a0y (m,h)):body prog b4O S4 (m.rooms.length+1) W6 (S3 (m,h))=some (erI 2 (a9X (m,h))):=by
 have c:u5 (m,h):=h0
 unfold S3 a9X
 try dsimp only
 rw [d3R]
 try simp only [l7,a1S c,a1T c,a3n,gdt]
 have:=d1z m h h0 (m.rooms.length+1) 0 m.rooms.length 0 h (by omega)
 rw [Nat.zero_add] at this
 exact this
theorem e1b:d8 prog c7Y c7X:=g8 b5R fun x hx =>
 b9 (φ:=b4O) (a9 a9V b5) d9 (kp:=S4) (n:=x.1.rooms.length+1) func115 (c:=d3 W6) (by kernel_rfl) (d1A x.1 x.2 hx) (b8 (by kernel_rfl))
def a0z (x:Ml × Hd):Prop:=x.1.rooms.length≤LM
def S5 (x:Ml × Hd):List Arg:=[aR x.1.cs,aR x.2.cs]
def a9Y (x:Ml × Hd):Int:=((dpn x.1.rooms x.1.rooms.length x.2:Nat):Int)
noncomputable def c7Z:Ent:=ent [] a0z S5 (erI 2) a9Y
theorem b5U (x y:Ml × Hd) (h:S5 x=S5 y):x=y:=by
 obtain ⟨m1,h1⟩:=x
 obtain ⟨m2,h2⟩:=y
 simp only [S5,List.cons.injEq,and_true,true_and] at h
 obtain ⟨e0,e1⟩:=h
 obtain rfl:=Ml.cs_ext (j6 e0)
 obtain rfl:=Hd.cs_ext (j6 e1)
 rfl
theorem d7Y {m:Ml} {h:Hd} (h0:a0z (m,h)):dom a0z S5 [(wMl m),(wHd h)]=true:=i3 (ea:=S5) (x:=(m,h)) h0
theorem d7Z {m:Ml} {h:Hd} (h0:a0z (m,h)):inv a0z S5 [(wMl m),(wHd h)]=(m,h):=g9 b5U (x:=(m,h)) h0
theorem e1c (m:Ml) (h:Hd):a9Y (m,h)=((dpn m.rooms m.rooms.length h:Nat):Int):=rfl
def c8a:Nat:=131
noncomputable abbrev a0A:Func:=f131
def V7:List (Nat × List Nat):=[(0,kq [5,7]),(1,kq [5,7,10]),(2,[8,9,20,24]),(3,[8,9,20,24,72]),(4,[8,9,20,24]),(5,[8,9,20,24]),(6,[16])]
def b6U:List Nat:=[0,0]
def a7I (m:Ml) (h:Hd) (x20:Int) (x24:Int):St:=[vp 2 8,vb 2 [ci m.c.1,ci m.c.2,ci m.c.3,ci m.c.4,ci m.c.5,ci m.c.6,.tr false (eL 11 Rm.cs m.2),.tr false (eL 1 b6 m.3)],vi 5 x20,vi 6 x24]
def a8K (m:Ml) (h:Hd) (x20:Int) (x24:Int):St:=[vp 2 8,vb 2 [ci m.c.1,ci m.c.2,ci m.c.3,ci m.c.4,ci m.c.5,ci m.c.6,.tr false (eL 11 Rm.cs m.2),.tr false (eL 1 b6 m.3)],vi 5 x20,vi 6 x24,ve 72]
noncomputable abbrev b6V:Sems:=b3 [(Q8,Q7)]
theorem b3S (m:Ml) (h:Hd) (x20:Int) (x24:Int) (n:Nat) (K:Ex→St→Res):i8 prog b6V V7 a0A [1,1,0,1,0] n (a7I m h x20 x24) K=(bif decide (0≤x24) then bif decide (x20 < (↑m.2.length:Int)) then gd (decide (0≤x24)&&(x24.toNat.blt m.2.length&&true))<|gd (T.isI i64 (atL Rm.cs m.2 x24.toNat 2)&&T.isI i64 (atL Rm.cs m.2 x24.toNat 3))<|gd (dom z3 B7 [(wMl m),(0,true,[C.tr false (T.int i64 (atL Rm.cs m.2 x24.toNat 2).toI),C.tr false (T.int i64 (atL Rm.cs m.2 x24.toNat 3).toI)])])<|K .normal (a7I m h (i64.wrap (x20+1)) (W5 (inv z3 B7 [(wMl m),(0,true,[C.tr false (T.int i64 (atL Rm.cs m.2 x24.toNat 2).toI),C.tr false (T.int i64 (atL Rm.cs m.2 x24.toNat 3).toI)])]))) else K (.exit 0) (a8K m h x20 x24) else K (.exit 0) (a8K m h x20 x24)):=by kernel_rfl
theorem a5D (m:Ml) (h:Hd) (x20:Int) (x24:Int) (n:Nat):d5 prog b6V V7 a0A b6U [1,1,0,1,0] [] n (.exit 0) (a8K m h x20 x24)=(some ([(false,[.tr true (T.int i64 x20)])],(nu 2))):=by kernel_rfl
theorem d3S (m:Ml) (h:Hd) (n:Nat):body prog b6V V7 n a0A [aR m.cs,aR h.cs]=(gd (dom z3 B7 [(wMl m),(wHd h)])<|j5 prog b6V V7 a0A [1,1,0,1,0] n n (a7I m h (0) (W5 (inv z3 B7 [(wMl m),(wHd h)]))) (d5 prog b6V V7 a0A b6U [1,1,0,1,0] [] n)):=by kernel_rfl
theorem d1B (m:Ml) (h0:Hd) (hl:m.rooms.length≤LM) (n mm:Nat):∀ (k i:Nat) (h:Hd),i+k=m.rooms.length→j5 prog b6V V7 a0A [1,1,0,1,0] n (k+1+mm) (a7I m h0 (i:Nat) (rof m.rooms h)) (d5 prog b6V V7 a0A b6U [1,1,0,1,0] [] n)=some (erI 2 ((i+dpn m.rooms k h:Nat):Int)):=by
 have hlm:=lm
 intro k
 induction k with
 | zero =>
  intro i h hi
  have e1:0+1+mm=mm+1:=by omega
  have e2:i=m.rooms.length:=by omega
  subst e2
  rw [e1,O1,b3S]
  simp only [p8,Nat.lt_irrefl,decide_false,cond_false]
  by_cases e:0≤rof m.rooms h
  ·simp only [decide_eq_true e,cond_true]
   exact (a5D m h0 _ _ n).trans rfl
  ·simp only [decide_eq_false e,cond_false]
   exact (a5D m h0 _ _ n).trans rfl
 | succ k ih =>
  intro i h hi
  have e1:k+1+1+mm=(k+1+mm)+1:=by omega
  have hi':i < m.rooms.length:=by omega
  rw [e1,O1,b3S]
  by_cases e:0≤rof m.rooms h
  ·have hx:=List.getElem?_eq_getElem (b1o e)
   obtain ⟨x,hxe⟩:∃ x,x=m.rooms[(rof m.rooms h).toNat]'(b1o e):=⟨_,rfl⟩
   rw [← hxe] at hx
   have hb:=b1o e
   have c:z3 (m,x.up):=hl
   have e':¬ rof m.rooms h < 0:=by omega
   simp (disch:=omega) only [f4,hi',a1U c,a1V c,a3o,decide_eq_false e',cond_false,decide_eq_true e,V6,decide_eq_true hb,d6 hx,Rm.cs,o3]
   have e3:dpn m.rooms (k+1) h=dpn m.rooms k x.up+1:=by
    simp only [dpn,hx,decide_eq_true e,cond_true]
   rw [e3,show i+(dpn m.rooms k x.up+1)=i+1+dpn m.rooms k x.up by omega]
   exact ih (i+1) x.up (by omega)
  ·have e':rof m.rooms h < 0:=by omega
   have e3:dpn m.rooms (k+1) h=0:=by
    unfold dpn
    cases m.rooms[(rof m.rooms h).toNat]? with
    | none=>rfl
    | some x=>simp only [decide_eq_false e,cond_false]
   rw [e3,Nat.add_zero]
   have c:z3 (m,h):=hl
   simp only [f4,hi',a1U c,a1V c,a3o,decide_eq_true e',decide_eq_false e,cond_true,cond_false]
   exact (a5D m h0 _ _ n).trans rfl
theorem d1C (m:Ml) (h:Hd) (h0:a0z (m,h)):body prog b6V V7 (m.rooms.length+1) a0A (S5 (m,h))=some (erI 2 (a9Y (m,h))):=by
 have c:z3 (m,h):=h0
 unfold S5 a9Y
 try dsimp only
 rw [d3S]
 try simp only [l7,a1U c,a1V c,a3o,gdt]
 have:=d1B m h h0 (m.rooms.length+1) 0 m.rooms.length 0 h (by omega)
 rw [Nat.zero_add] at this
 exact this
theorem e1d:d8 prog c8a c7Z:=g8 b5U fun x hx =>
 b9 (φ:=b6V) (a9 a9W b5) d9 (kp:=V7) (n:=x.1.rooms.length+1) func131 (c:=d3 a0A) (by kernel_rfl) (d1C x.1 x.2 hx) (b8 (by kernel_rfl))
end Go.Mach.F
namespace Go.Mach
open Go
section
variable {P:Program} {φ:Sems}
theorem S.free {E σ a w} (h:S E σ a w) (t:Nat) (x:Value) (hr:(σ.get (slot t)).rows=[]):S E σ (a.put (some t) x) w:=by
 obtain ⟨G,hG,hp⟩:=h
 refine ⟨G,⟨hG.nd,hG.inj,hG.rng,hG.os,hG.tape,hG.output,hG.size,hG.kept,fun t'=>?_,hG.boxes,hG.exts,hG.xbox,hG.defers,?_,hG.here⟩,hp⟩
 ·by_cases e:t'=t
  ·subst e
   rw [hr]
   trivial
  ·have:=hG.slots t'
   have e2:(a.put (some t) x).tmps.getD t' undef=a.tmps.getD t' undef:=by
    simp only [Act.put,Array.getD_eq_getD_getElem?]
    rw [Array.getElem?_setIfInBounds_ne (fun h=>e h.symm)]
   rw [e2]
   exact this
 ·have:=hG.tm
  simpa [Act.put] using this
/-- What a function's code computes if it ends in a return. -/
def a9w (P:Program) (φ:Sems) (kp:List (Nat × List Nat)) (n:Nat) (fn:Func) (X:Code) (args:List Arg):Res :=
 O4 P φ (a8d kp) fn.ntmps none n X (B5 fn.ntmps 0 args) fun e σ=>match e with
  | .ret=>R4 P φ none fn (args.map (·.1)) σ fun rows outs=>some (rows,outs)
  | _=>none
theorem c8b (hφ:V0 P φ) (hm:P.follows .mixedOrders=true) {kp:List (Nat × List Nat)} {n:Nat} {fn:Func} {X:Code} {args:List Arg} {rs outs:List Row} (h:a9w P φ kp n fn X args=some (rs,outs))
  {w:World} {vals:Array Value} {γ:Nat→Gh} (hargs:ArgsX w args vals γ) {a:Act} (hS:S ⟨w,Dof γ,fn.ntmps,fun i=>vals.getD i undef,fun t=>I7 fn.ntmps args γ (box t) []⟩ (B5 fn.ntmps 0 args) a w) :
  X.wp P (fun e a w'=>e=.ret∧bodyPost P fn (fun e w'=>∃ v δ,e=.returned v∧GrewD w w' (Dof γ)∧ResX w w' γ args vals rs outs v δ) .ret a w') a w:=by
 unfold a9w at h
 have h':=cast (c2x (P:=P) (φ:=φ) (fun o:Option (List Row × List Row)=>o=some (rs,outs)) (z:=none) (z':=False) (by simp) (a8d kp) fn.ntmps n X (B5 fn.ntmps 0 args) fun e σ=>match e with
  | .ret=>R4 P φ none fn (args.map (·.1)) σ fun rows outs=>some (rows,outs)
  | _=>none) h
 have hxb:∀ i x,args[i]?=some x→x.1=2→(fun t=>I7 fn.ntmps args γ (box t) []) (fn.ntmps+i)=γ i []:=fun i x hi ht=>by
  simp only
  rw [b3M,a8i hi,if_pos ht]
 refine c4h hm (E:=⟨w,Dof γ,fn.ntmps,fun i=>vals.getD i undef,fun t=>I7 fn.ntmps args γ (box t) []⟩) hφ X _ _ _ _ _ h' hS fun e σ' a' w' hK hS=>?_
 cases e with
 | exit i=>cases hK
 | normal=>cases hK
 | ret=>exact ⟨rfl,b6N hargs hxb hS hK⟩
theorem b4P (hφ : V0 P φ) (hm : P.follows .mixedOrders = true) {kp : List (Nat × List Nat)} {n : Nat} {f : FuncId} {fn : Func} (hf : P.funcs[f]? = some fn) (hN : fn.name ≠ "runtime.NumGoroutine") {o0 o1 o2 : Oper} {A B : Code}
  (hc:fn.body=some (.seq (.region 0 #[o0] false) (.seq (.seq (.region 1 #[o1,o2] false) (.cond (.tmp 4) A .skip)) B)))
  (g0:o0.guard=none) (g1:o1.guard=none) (g2:o2.guard=none)
  (h0:∀ a w K Q,K (a.put (some 2) (.slice none 0 0)) w→o0.wp P a w K Q)
  (h1:∀ a w K Q,K (a.put (some 3) (a.eval (.tmp 0))) w→o1.wp P a w K Q)
  (h2:∀ a w K Q Ad k c,a.eval (.tmp 3)=.slice Ad k c→K (a.put (some 4) (.bool Ad.isNone)) w→o2.wp P a w K Q)
  (hnt:5≤fn.ntmps) {m k:Nat} {ft:Nat→Nat→T} {rs outs:List Row}
  (hA:k=0→a9w P φ kp n fn A [F.aT (.arr m k ft)]=some (rs,outs))
  (hB:a9w P φ kp n fn B [F.aT (.arr m k ft)]=some (rs,outs)):a1N P f [F.aT (.arr m k ft)] rs outs:=by
 refine ⟨⟨fn,hf,by rw [hc];rfl,hN⟩,fun w vals γ hargs=>?_⟩
 have hS:=S.init (nt:=fn.ntmps) hargs (by simp only [List.length_cons,List.length_nil];omega)
 obtain ⟨v,hv,hok⟩:=hargs.arg 0 _ rfl
 have hr:V3 w (A4 w (Dof γ)).N (.arr m k ft) v:=by
  unfold ArgOk at hok
  rw [if_neg (by simp [F.aT]),if_neg (by simp [F.aT])] at hok
  exact hok (fun _=>noG) fun _=>z0
 obtain ⟨Ad,cap,rfl,hcap,hpos⟩:=hr
 refine calls_of_wp hf hc ?_
 have hsz:=hargs.size
 simp only [List.length_cons,List.length_nil] at hsz
 generalize ha:(⟨vals ++ Array.replicate (fn.ntmps - vals.size) undef,[]⟩:Act)=a at hS ⊢
 have hat:a.tmps.size=fn.ntmps:=by rw [← ha];simp;omega
 have ha0:a.eval (.tmp 0)=.slice Ad k cap:=by
  rw [← ha]
  simp only [Act.eval,Array.getD_eq_getD_getElem?]
  rw [Array.getElem?_append_left (by omega),hv]
  rfl
 have want:∀ (o:Oper) t,o.guard=none→Region.wanted o t=true:=fun o t h=>by simp [Region.wanted,h]
 refine wp_seq (wp_region ?_)
 show wpOps P #[o0] _ [0] a w
 simp only [wpOps,List.getElem?_toArray,List.getElem?_cons_zero,want _ _ g0,if_true]
 refine .inl (h0 _ _ _ _ ?_)
 refine wp_seq (wp_seq (wp_region ?_))
 show wpOps P #[o1,o2] _ [0,1] _ w
 simp only [wpOps,List.getElem?_toArray,List.getElem?_cons_zero,List.getElem?_cons_succ,want _ _ g1,want _ _ g2,if_true]
 refine .inl (h1 _ _ _ _ (.inl (h2 _ _ _ _ Ad k cap ?_ ?_)))
 ·have e1:(a.put (some 2) (.slice none 0 0)).eval (.tmp 0)=.slice Ad k cap:=by
   rw [← ha0]
   simp [Act.put,Act.eval,Array.getD_eq_getD_getElem?]
  rw [e1]
  have h3:3 < a.tmps.size:=by omega
  simp [Act.put,Act.eval,Array.getD_eq_getD_getElem?,Array.getElem?_setIfInBounds,h3]
 ·generalize hx:(a.put (some 2) (Value.slice none 0 0)).eval (.tmp 0)=x
  have hS2:S ⟨w,Dof γ,fn.ntmps,fun i=>vals.getD i undef,fun t=>I7 fn.ntmps [F.aT (.arr m k ft)] γ (box t) []⟩ (B5 fn.ntmps 0 [F.aT (.arr m k ft)]) ((((a.put (some 2) (.slice none 0 0))).put (some 3) x).put (some 4) (.bool Ad.isNone)) w :=
   ((hS.free 2 _ rfl).free 3 _ rfl).free 4 _ rfl
  have e4:((((a.put (some 2) (Value.slice none 0 0))).put (some 3) x).put (some 4) (.bool Ad.isNone)).eval (.tmp 4)=.bool Ad.isNone:=by
   have h4:4 < a.tmps.size:=by omega
   simp [Act.put,Act.eval,Array.getD_eq_getD_getElem?,Array.getElem?_setIfInBounds,h4]
  refine wp_cond e4 ?_
  cases Ad with
  | none =>
   have hk:k=0:=by
    rcases Nat.eq_zero_or_pos k with h | h
    ·exact h
    ·obtain ⟨b,off,he,_⟩:=hpos h
     cases he
   refine wp_mono (c8b hφ hm (hA hk) hargs hS2) fun e a' w' hq=>?_
   obtain ⟨rfl,hq⟩:=hq
   exact hq
  | some ad =>
   refine wp_skip ?_
   refine wp_mono (c8b hφ hm hB hargs hS2) fun e a' w' hq=>?_
   obtain ⟨rfl,hq⟩:=hq
   exact hq
end
end Go.Mach
