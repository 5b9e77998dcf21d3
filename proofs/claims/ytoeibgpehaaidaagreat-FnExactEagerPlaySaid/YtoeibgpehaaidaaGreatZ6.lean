/- Lemmas and definitions of the proof (Da Db Dd De Df Bo Qc Qd Qx Qy Qe Qf Tc Ub Uc Ud Pa). Conditions: none. -/
import Derived.Test.YtoeibgpehaaidaaGreatZ5
set_option linter.all false
namespace Go.Mach.F
open Go Go.Mach Go.Proofs.Tryz Go.IntKind
--=set_option maxRecDepth 100000
def U2:Nat:=151
noncomputable abbrev d6e:Func:=f151
def e5A:List (Nat × List Nat):=[(0,[4,8,9]),(1,[12])]
noncomputable def a2y:Ent:=inl [0,0] prog (b3 []) e5A 0 d6e
theorem d6f:d8 prog U2 a2y:=p6 b5 d9 (c:=d3 d6e) func151 (by kernel_rfl) (b8 (by kernel_rfl))
def ixH (l:List Hd) (h:Hd):Int:=match (List.range l.length).find? (fun i=>decide (l[i]?=some h)) with | some i=>(i:Int) | none=>-1
def a1q (l:List Hd) (h:Hd):Bool:=decide (h∈l)
def a6R (x:List Hd × Hd):Prop:=x.1.length≤LM
def a2z (x:List Hd × Hd):List Arg:=[aT (eL 2 Hd.cs x.1),aF U2 x.2.cs]
def b9L (x:List Hd × Hd):Int:=ixH x.1 x.2
noncomputable def e1T:Ent:=ent [] a6R a2z (erI 2) b9L
theorem c1R (x y:List Hd × Hd) (h:a2z x=a2z y):x=y:=by
 obtain ⟨l1,h1⟩:=x
 obtain ⟨l2,h2⟩:=y
 simp only [a2z,List.cons.injEq,and_true,true_and] at h
 obtain ⟨e0,e1⟩:=h
 obtain rfl:=m8 Hd.cs_inj (K7 e0)
 obtain rfl:=Hd.cs_ext (c4x (by rfl) e1)
 rfl
theorem e9s {l:List Hd} {h:Hd} (h0:a6R (l,h)):dom a6R a2z [(0,false,[C.tr false (T.arr 2 l.length (atL Hd.cs l))]),(0,false,[C.fn 151 [Pt.pim 2 (v3 [T.int i64 h.slot,T.int i64 h.gen])]])]=true:=i3 (ea:=a2z) (x:=(l,h)) h0
theorem e9t {l:List Hd} {h:Hd} (h0:a6R (l,h)):inv a6R a2z [(0,false,[C.tr false (T.arr 2 l.length (atL Hd.cs l))]),(0,false,[C.fn 151 [Pt.pim 2 (v3 [T.int i64 h.slot,T.int i64 h.gen])]])]=(l,h):=g9 c1R (x:=(l,h)) h0
theorem f1P (l:List Hd) (h:Hd):b9L (l,h)=ixH l h:=rfl
def e1U:Nat:=193
noncomputable abbrev b0d:Func:=f193
def a6S:List (Nat × List Nat):=[(0,[0,4]),(1,[0,4,28,32]),(2,[0,4,28,32,36]),(3,[0,4,20,28,32]),(4,[0,4,20,28,32,64]),(5,[16]),(6,[0,4,28,32]),(7,[16])]
def c6R:List Nat:=[0,0]
def a6T (l:List Hd) (h:Hd) (x32:Int):St:=[(0,⟨z0,[(false,[.tr false (eL 2 Hd.cs l)])]⟩),(4,⟨z0,[(false,[(C.fn 151 [Pt.pim [T.int i64 h.1,T.int i64 h.2].length (v3 [T.int i64 h.1,T.int i64 h.2])])])]⟩),vi 7 (↑l.length:Int),vi 8 x32]
def b4Z (l:List Hd) (h:Hd) (x32:Int):St:=[vi 4 x32]
def b5a (l:List Hd) (h:Hd) (x32:Int):St:=[(0,⟨z0,[(false,[.tr false (eL 2 Hd.cs l)])]⟩),(4,⟨z0,[(false,[(C.fn 151 [Pt.pim [T.int i64 h.1,T.int i64 h.2].length (v3 [T.int i64 h.1,T.int i64 h.2])])])]⟩),vi 7 (↑l.length:Int),vi 8 x32,ve 36]
theorem b9M (l:List Hd) (h:Hd) (x32:Int) (n:Nat) (K:Ex→St→Res):i8 prog (b3 [(U2,a2y)]) a6S b0d [1,0,1,0] n (a6T l h x32) K=(bif decide (x32 < (↑l.length:Int)) then gd (decide (0≤x32)&&(x32.toNat.blt l.length&&true))<|gd (T.isI i64 (atL Hd.cs l x32.toNat 0)&&T.isI i64 (atL Hd.cs l x32.toNat 1))<|bif bif (atL Hd.cs l x32.toNat 0).toI==(T.int i64 h.1).toI then bif (atL Hd.cs l x32.toNat 1).toI==(T.int i64 h.2).toI then true else false else false then K .ret (b4Z l h x32) else K .normal (a6T l h (i64.wrap (x32+1))) else K (.exit 0) (b5a l h x32)):=by kernel_rfl
theorem c9b (l:List Hd) (h:Hd) (x32:Int) (n:Nat):d5 prog (b3 [(U2,a2y)]) a6S b0d c6R [1,0,1,0] [] n .ret (b4Z l h x32)=(some ([(false,[.tr true (T.int i64 x32)])],(nu 2))):=by kernel_rfl
theorem c9c (l:List Hd) (h:Hd) (x32:Int) (n:Nat):d5 prog (b3 [(U2,a2y)]) a6S b0d c6R [1,0,1,0] [] n (.exit 0) (b5a l h x32)=(some ([(false,[.tr true (T.int i64 (-1))])],(nu 2))):=by kernel_rfl
theorem e5B (l:List Hd) (h:Hd) (n:Nat):body prog (b3 [(U2,a2y)]) a6S n b0d [aT (eL 2 Hd.cs l),aF U2 h.cs]=(j5 prog (b3 [(U2,a2y)]) a6S b0d [1,0,1,0] n n (a6T l h (0)) (d5 prog (b3 [(U2,a2y)]) a6S b0d c6R [1,0,1,0] [] n)):=by kernel_rfl
def a0i (x:List Hd × Hd):Prop:=x.1.length≤LM
def a0j (x:List Hd × Hd):List Arg:=[aT (eL 2 Hd.cs x.1),aR x.2.cs]
def a5f (x:List Hd × Hd):Int:=ixH x.1 x.2
noncomputable def e1V:Ent:=ent [] a0i a0j (erI 2) a5f
theorem c1S (x y:List Hd × Hd) (h:a0j x=a0j y):x=y:=by
 obtain ⟨l1,h1⟩:=x
 obtain ⟨l2,h2⟩:=y
 simp only [a0j,List.cons.injEq,and_true,true_and] at h
 obtain ⟨e0,e1⟩:=h
 obtain rfl:=m8 Hd.cs_inj (K7 e0)
 obtain rfl:=Hd.cs_ext (j6 e1)
 rfl
theorem c6S {l:List Hd} {h:Hd} (h0:a0i (l,h)):dom a0i a0j [(0,false,[C.tr false (T.arr 2 l.length (atL Hd.cs l))]),(wHd h)]=true:=i3 (ea:=a0j) (x:=(l,h)) h0
theorem c6T {l:List Hd} {h:Hd} (h0:a0i (l,h)):inv a0i a0j [(0,false,[C.tr false (T.arr 2 l.length (atL Hd.cs l))]),(wHd h)]=(l,h):=g9 c1S (x:=(l,h)) h0
def e1W:Nat:=192
noncomputable abbrev b0e:Func:=f192
def a6U:List (Nat × List Nat):=[(0,kq [0,7]),(1,kq [0,7,14,16]),(2,kq [0,7,14,16,18]),(3,kq [0,7,10,14,16]),(4,kq [0,7,10,14,16,32]),(5,[16]),(6,kq [0,7,14,16]),(7,[16])]
def c6U:List Nat:=[0,0]
def a6V (l:List Hd) (h:Hd) (x32:Int):St:=[(0,⟨z0,[(false,[.tr false (eL 2 Hd.cs l)])]⟩),vp 3 2,vb 3 [ci h.1,ci h.2],vi 7 (↑l.length:Int),vi 8 x32]
def b5b (l:List Hd) (h:Hd) (x32:Int):St:=[vi 4 x32]
def b5c (l:List Hd) (h:Hd) (x32:Int):St:=[(0,⟨z0,[(false,[.tr false (eL 2 Hd.cs l)])]⟩),vp 3 2,vb 3 [ci h.1,ci h.2],vi 7 (↑l.length:Int),vi 8 x32,ve 36]
theorem b9N (l:List Hd) (h:Hd) (x32:Int) (n:Nat) (K:Ex→St→Res):i8 prog (b3 []) a6U b0e [1,0,1,0] n (a6V l h x32) K=(bif decide (x32 < (↑l.length:Int)) then gd (decide (0≤x32)&&(x32.toNat.blt l.length&&true))<|gd (T.isI i64 (atL Hd.cs l x32.toNat 0)&&T.isI i64 (atL Hd.cs l x32.toNat 1))<|bif bif h.1==(atL Hd.cs l x32.toNat 0).toI then bif h.2==(atL Hd.cs l x32.toNat 1).toI then true else false else false then K .ret (b5b l h x32) else K .normal (a6V l h (i64.wrap (x32+1))) else K (.exit 0) (b5c l h x32)):=by kernel_rfl
theorem c9d (l:List Hd) (h:Hd) (x32:Int) (n:Nat):d5 prog (b3 []) a6U b0e c6U [1,0,1,0] [] n .ret (b5b l h x32)=(some ([(false,[.tr true (T.int i64 x32)])],(nu 2))):=by kernel_rfl
theorem c9e (l:List Hd) (h:Hd) (x32:Int) (n:Nat):d5 prog (b3 []) a6U b0e c6U [1,0,1,0] [] n (.exit 0) (b5c l h x32)=(some ([(false,[.tr true (T.int i64 (-1))])],(nu 2))):=by kernel_rfl
theorem e5C (l:List Hd) (h:Hd) (n:Nat):body prog (b3 []) a6U n b0e [aT (eL 2 Hd.cs l),aR h.cs]=(j5 prog (b3 []) a6U b0e [1,0,1,0] n n (a6V l h (0)) (d5 prog (b3 []) a6U b0e c6U [1,0,1,0] [] n)):=by kernel_rfl
def a6W (x:List Hd × Hd):Prop:=x.1.length≤LM
def a2A (x:List Hd × Hd):List Arg:=[vT (eL 2 Hd.cs x.1),aF U2 x.2.cs]
def a5g (x:List Hd × Hd):List Hd:=x.1.filter (fun y=>!decide (y=x.2))
noncomputable def b0f:Ent:=ent [3] a6W a2A (fun l=>([oT (eL 2 Hd.cs l)],[nul,nul])) a5g
theorem c1T (x y:List Hd × Hd) (h:a2A x=a2A y):x=y:=by
 obtain ⟨l1,h1⟩:=x
 obtain ⟨l2,h2⟩:=y
 simp only [a2A,List.cons.injEq,and_true,true_and] at h
 obtain ⟨e0,e1⟩:=h
 obtain rfl:=m8 Hd.cs_inj (a5b e0)
 obtain rfl:=Hd.cs_ext (c4x (by rfl) e1)
 rfl
theorem e9u {l:List Hd} {h:Hd} (h0:a6W (l,h)):dom a6W a2A [(3,false,[C.tr true (T.arr 2 l.length (atL Hd.cs l))]),(0,false,[C.fn 151 [Pt.pim 2 (v3 [T.int i64 h.slot,T.int i64 h.gen])]])]=true:=i3 (ea:=a2A) (x:=(l,h)) h0
theorem e9v {l:List Hd} {h:Hd} (h0:a6W (l,h)):inv a6W a2A [(3,false,[C.tr true (T.arr 2 l.length (atL Hd.cs l))]),(0,false,[C.fn 151 [Pt.pim 2 (v3 [T.int i64 h.slot,T.int i64 h.gen])]])]=(l,h):=g9 c1T (x:=(l,h)) h0
theorem f1Q (l:List Hd) (h:Hd):a5g (l,h)=l.filter (fun y=>!decide (y=h)):=rfl
def b0g:Nat:=150
noncomputable abbrev b2B:Func:=f150
def a8R:List (Nat × List Nat):=[(0,[0,4,2]),(1,[0,4,20,2]),(2,[0,4,20,48,2]),(3,[16,2]),(4,[0,4,20,24,2]),(5,[0,4,20,24,76,2]),(6,[0,4,20,24,2]),(7,[0,4,20,24,28,29,2]),(8,[0,4,20,24,28,29,116,2]),(9,[0,4,20,24,2]),(10,[0,4,20,24,2]),(11,[0,20,2]),(12,[16,2])]
def d6g:List Nat:=[3,0]
def a3z (l:List Hd) (h:Hd) (nx0:Nat) (fx0:Nat→Nat→T) (x20:Int) (x24:Int):St:=[va 0 (2) (nx0) (fx0),(4,⟨z0,[(false,[(C.fn 151 [Pt.pim [T.int i64 h.1,T.int i64 h.2].length (v3 [T.int i64 h.1,T.int i64 h.2])])])]⟩),vi 5 x20,vi 6 x24]
def b5d (l:List Hd) (h:Hd) (nx0:Nat) (fx0:Nat→Nat→T) (x20:Int) (x24:Int):St:=[va 0 (2) (nx0) (fx0),(4,⟨z0,[(false,[(C.fn 151 [Pt.pim [T.int i64 h.1,T.int i64 h.2].length (v3 [T.int i64 h.1,T.int i64 h.2])])])]⟩),vi 5 x20,vi 6 x24,ve 76]
noncomputable abbrev c2R:Sems:=b3 [(e1U,e1T),(U2,a2y)]
theorem b9O (l:List Hd) (h:Hd) (nx0:Nat) (fx0:Nat→Nat→T) (x20:Int) (x24:Int) (n:Nat) (K:Ex→St→Res):i8 prog c2R a8R b2B [1,1,1,0,1,0] n (a3z l h nx0 fx0 x20 x24) K=(bif decide (x24 < (↑nx0:Int)) then gd (decide (0≤x24)&&(x24.toNat.blt nx0&&true))<|gd ((0+x24.toNat).blt nx0&&true&&(T.isI i64 (fx0 (0+x24.toNat) 0)&&T.isI i64 (fx0 (0+x24.toNat) 1)))<|bif !bif (fx0 (0+x24.toNat) 0).toI==(T.int i64 h.1).toI then bif (fx0 (0+x24.toNat) 1).toI==(T.int i64 h.2).toI then true else false else false then gd (decide (0≤x20)&&(x20.toNat.blt nx0&&true))<|gd ((0+x20.toNat).blt nx0&&true&&true)<|gd ((0+x20.toNat).blt nx0&&true&&true)<|K .normal (a3z l h (nx0) (b7 (0+x20.toNat) 1 (T.int i64 (fx0 (0+x24.toNat) 1).toI) (b7 (0+x20.toNat) 0 (T.int i64 (fx0 (0+x24.toNat) 0).toI) fx0)) (i64.wrap (x20+1)) (i64.wrap (x24+1))) else K .normal (a3z l h (nx0) (fx0) (x20) (i64.wrap (x24+1))) else K (.exit 0) (b5d l h nx0 fx0 x20 x24)):=by kernel_rfl
theorem c9f (l:List Hd) (h:Hd) (nx0:Nat) (fx0:Nat→Nat→T) (x20:Int) (x24:Int) (n:Nat):d5 prog c2R a8R b2B d6g [1,1,1,0,1,0] [] n (.exit 0) (b5d l h nx0 fx0 x20 x24)=(gd (decide (0≤x20)&&(decide (x20≤(↑nx0:Int))&&decide ((↑nx0:Int)≤(↑nx0:Int))))<|gd ((0+x20.toNat+((↑nx0:Int).toNat - x20.toNat)).ble nx0)<|gd (decide (0≤x20)&&decide (x20≤(↑nx0:Int)))<|gd ((x20.toNat - 0).ble nx0&&true)<|gd ((x20.toNat - 0).ble (x20.toNat - 0)&&true)<|some ([(false,[.tr true (.arr (2) (x20.toNat - 0) (Z8 2 (0+x20.toNat) ((↑nx0:Int).toNat - x20.toNat) (fun x k=>N9 prog 82 0 k) fx0))])],(nu 2))):=by kernel_rfl
theorem e5D (l:List Hd) (h:Hd) (n:Nat):body prog c2R a8R n b2B [vT (eL 2 Hd.cs l),aF U2 h.cs]=(gd ((0+l.length).ble l.length)<|d7 a6R a2z (b9L) [(0,false,[C.tr false (T.arr 2 l.length (l3 0 l.length (eL 2 Hd.cs l).fn))]),(0,false,[C.fn 151 [Pt.pim [T.int i64 h.1,T.int i64 h.2].length (v3 [T.int i64 h.1,T.int i64 h.2])]])] fun (r1:Int)=>bif r1==-1 then gl l.length<|gl l.length<|some ([(false,[.tr true (.arr (2) (l.length) ((eL 2 Hd.cs l).fn))])],(nu 2)) else j5 prog c2R a8R b2B [1,1,1,0,1,0] n n (a3z l h (T.ln (eL 2 Hd.cs l)) (T.fn (eL 2 Hd.cs l)) r1 (i64.wrap (r1+1))) (d5 prog c2R a8R b2B d6g [1,1,1,0,1,0] [] n)):=by kernel_rfl
def Z4 (x:List Hd × Hd):Prop:=x.1.length≤LM
def U6 (x:List Hd × Hd):List Arg:=[aT (eL 2 Hd.cs x.1),aR x.2.cs]
def a8S (x:List Hd × Hd):Bool:=a1q x.1 x.2
noncomputable def F3:Ent:=ent [] Z4 U6 (erB 2) a8S
theorem b9P (x y:List Hd × Hd) (h:U6 x=U6 y):x=y:=by
 obtain ⟨l1,h1⟩:=x
 obtain ⟨l2,h2⟩:=y
 simp only [U6,List.cons.injEq,and_true,true_and] at h
 obtain ⟨e0,e1⟩:=h
 obtain rfl:=m8 Hd.cs_inj (K7 e0)
 obtain rfl:=Hd.cs_ext (j6 e1)
 rfl
theorem d2x {l:List Hd} {h:Hd} (h0:Z4 (l,h)):dom Z4 U6 [(0,false,[C.tr false (T.arr 2 l.length (atL Hd.cs l))]),(wHd h)]=true:=i3 (ea:=U6) (x:=(l,h)) h0
theorem d2y {l:List Hd} {h:Hd} (h0:Z4 (l,h)):inv Z4 U6 [(0,false,[C.tr false (T.arr 2 l.length (atL Hd.cs l))]),(wHd h)]=(l,h):=g9 b9P (x:=(l,h)) h0
theorem d6h (l:List Hd) (h:Hd):a8S (l,h)=a1q l h:=rfl
def F4:Nat:=125
noncomputable abbrev a6X:Func:=f125
def a3A:List (Nat × List Nat):=[(0,kq [0,7]),(1,kq [0,7,10]),(2,kq [0,7,10,18]),(3,kq [0,7,10]),(4,kq [0,7,10,34]),(5,[16]),(6,[16])]
def c2S:List Nat:=[0,0]
def a4t (l:List Hd) (h:Hd) (x20:Int):St:=[(0,⟨z0,[(false,[.tr false (eL 2 Hd.cs l)])]⟩),vp 3 2,vb 3 [ci h.1,ci h.2],vi 5 x20]
def b2C (l:List Hd) (h:Hd) (x20:Int):St:=[vo 4 true]
def b2D (l:List Hd) (h:Hd) (x20:Int):St:=[(0,⟨z0,[(false,[.tr false (eL 2 Hd.cs l)])]⟩),vp 3 2,vb 3 [ci h.1,ci h.2],vi 5 x20,ve 36]
theorem b7T (l:List Hd) (h:Hd) (x20:Int) (n:Nat) (K:Ex→St→Res):i8 prog (b3 []) a3A a6X [1,0,1,0] n (a4t l h x20) K=(bif decide (x20 < (↑l.length:Int)) then gd (decide (0≤x20)&&(x20.toNat.blt l.length&&true))<|gd (T.isI i64 (atL Hd.cs l x20.toNat 0)&&T.isI i64 (atL Hd.cs l x20.toNat 1))<|bif bif (atL Hd.cs l x20.toNat 0).toI==h.1 then bif (atL Hd.cs l x20.toNat 1).toI==h.2 then true else false else false then K .ret (b2C l h x20) else K .normal (a4t l h (i64.wrap (x20+1))) else K (.exit 0) (b2D l h x20)):=by kernel_rfl
theorem c6V (l:List Hd) (h:Hd) (x20:Int) (n:Nat):d5 prog (b3 []) a3A a6X c2S [1,0,1,0] [] n .ret (b2C l h x20)=(some ([(false,[.tr true (T.bool true)])],(nu 2))):=by kernel_rfl
theorem c6W (l:List Hd) (h:Hd) (x20:Int) (n:Nat):d5 prog (b3 []) a3A a6X c2S [1,0,1,0] [] n (.exit 0) (b2D l h x20)=(some ([(false,[.tr true (T.bool false)])],(nu 2))):=by kernel_rfl
theorem e1X (l:List Hd) (h:Hd) (n:Nat):body prog (b3 []) a3A n a6X [aT (eL 2 Hd.cs l),aR h.cs]=(j5 prog (b3 []) a3A a6X [1,0,1,0] n n (a4t l h (0)) (d5 prog (b3 []) a3A a6X c2S [1,0,1,0] [] n)):=by kernel_rfl
end Go.Mach.F
namespace Go.Mach.F
open Go Go.Mach Go.Proofs.Tryz
theorem a1N.cut1 {f:FuncId} {args:List Arg} {m n:Nat} {g g':Nat→Nat→T} {outs:List Row} (h:a1N prog f args [oT (.arr m n g)] outs) (e:∀ j k,j < n→k < m→g j k=g' j k):a1N prog f args [oT (.arr m n g')] outs:=by
 refine ⟨h.1,fun w vals γ ha=>(h.2 w vals γ ha).mono fun x w' ⟨v,δ,h1,h2,h3⟩=>⟨v,δ,h1,h2,⟨h3.inj,h3.rng,fun E G V=>?_,h3.out⟩⟩⟩
 have hr:RelOwn w' (.arr m n g) (fun q=>δ 0 (0::0::q)) v:=h3.res E G V
 show RelOwn w' (.arr m n g') (fun q=>δ 0 (0::0::q)) v
 rcases hr with hr | ⟨b,off,cap,cs,ty,a1,a2,a3,a4,a5,a6⟩
 ·exact .inl hr
 ·refine .inr ⟨b,off,cap,cs,ty,a1,a2,a3,a4,a5,fun j hj k hk=>?_⟩
  rw [← e j k hj hk]
  exact a6 j hj k hk
theorem c0V (x h:Hd):decide (x.slot=h.slot∧x.gen=h.gen)=decide (some x=some h):=by
 refine decide_eq_decide.2 ?_
 rcases x with ⟨_,_⟩
 rcases h with ⟨_,_⟩
 simp
theorem f2T (x h:Hd):decide (h.slot=x.slot∧h.gen=x.gen)=decide (some x=some h):=by
 rw [← c0V]
 exact decide_eq_decide.2 ⟨fun e=>⟨e.1.symm,e.2.symm⟩,fun e=>⟨e.1.symm,e.2.symm⟩⟩
theorem e1Y (l:List Hd) (h:Hd):(∃ i:Nat,ixH l h=(i:Int)∧l[i]?=some h∧i < l.length∧∀ j,j < i→l[j]?≠some h)∨(ixH l h=-1∧h ∉ l):=by
 unfold ixH
 cases hf:(List.range l.length).find? (fun i=>decide (l[i]?=some h)) with
 | some i =>
  obtain ⟨h1,h2,h3⟩:=List.find?_range_eq_some.1 hf
  refine .inl ⟨i,rfl,of_decide_eq_true h1,List.mem_range.1 h2,fun j hj e=>?_⟩
  have:=h3 j hj
  simp [e] at this
 | none =>
  refine .inr ⟨rfl,fun hm=>?_⟩
  obtain ⟨i,hi,e⟩:=List.getElem_of_mem hm
  have:=List.find?_eq_none.1 hf i (List.mem_range.2 hi)
  simp [List.getElem?_eq_getElem hi,e] at this
theorem c6X (l:List Hd) (h:Hd):decide (0≤ixH l h)=a1q l h:=by
 unfold a1q
 rcases e1Y l h with ⟨i,e,hi,_⟩ | ⟨e,hn⟩
 ·rw [e,decide_eq_true (List.mem_of_getElem? hi)]
  exact decide_eq_true (Int.natCast_nonneg i)
 ·rw [e,decide_eq_false hn]
  rfl
theorem e1Z (l:List Hd) (h:Hd) (h0:a6R (l,h)):body prog (b3 [(U2,a2y)]) a6S (l.length+1) b0d (a2z (l,h))=some (erI 2 (b9L (l,h))):=by
 have hlm:=lm
 have hl:l.length≤LM:=h0
 unfold a2z b9L
 dsimp only
 rw [e5B,show a6T l h 0=(fun i:Nat=>a6T l h (i:Nat)) 0 from rfl,
  a6j l.length (fun i:Nat=>a6T l h (i:Nat)) (b5a l h l.length) 0 (fun i=>decide (l[i]?=some h)) .ret (by simp) (fun i=>b4Z l h i) (fun i K hi=>?_) (fun K=>?_) _ (Nat.le_refl _)]
 ·unfold ixH
  cases (List.range l.length).find? (fun i=>decide (l[i]?=some h)) with
  | some i=>exact c9b l h i _
  | none=>exact c9c l h l.length _
 ·have hx:=List.getElem?_eq_getElem hi
  rw [b9M]
  simp (disch:=omega) only [f4,hi,d6 hx,hx,Hd.cs,o3,A1,a6F,a6G,a6H,c0V]
 ·rw [b9M]
  simp only [p8,Nat.lt_irrefl,decide_false,cond_false]
theorem f1R:d8 prog e1U e1T:=g8 c1R fun x hx =>
 b9 (φ:=(b3 [(U2,a2y)])) (a9 d6f b5) d9 (kp:=a6S) (n:=x.1.length+1) func193 (c:=d3 b0d) (by kernel_rfl) (e1Z x.1 x.2 hx) (b8 (by kernel_rfl))
theorem e2a (l:List Hd) (h:Hd) (h0:a0i (l,h)):body prog (b3 []) a6U (l.length+1) b0e (a0j (l,h))=some (erI 2 (a5f (l,h))):=by
 have hlm:=lm
 have hl:l.length≤LM:=h0
 unfold a0j a5f
 dsimp only
 rw [e5C,show a6V l h 0=(fun i:Nat=>a6V l h (i:Nat)) 0 from rfl,
  a6j l.length (fun i:Nat=>a6V l h (i:Nat)) (b5c l h l.length) 0 (fun i=>decide (l[i]?=some h)) .ret (by simp) (fun i=>b5b l h i) (fun i K hi=>?_) (fun K=>?_) _ (Nat.le_refl _)]
 ·unfold ixH
  cases (List.range l.length).find? (fun i=>decide (l[i]?=some h)) with
  | some i=>exact c9d l h i _
  | none=>exact c9e l h l.length _
 ·have hx:=List.getElem?_eq_getElem hi
  rw [b9N]
  simp (disch:=omega) only [f4,hi,d6 hx,hx,Hd.cs,o3,A1,a6F,a6G,a6H,f2T]
 ·rw [b9N]
  simp only [p8,Nat.lt_irrefl,decide_false,cond_false]
theorem f1S:d8 prog e1W e1V:=g8 c1S fun x hx =>
 b9 (φ:=(b3 [])) b5 d9 (kp:=a6U) (n:=x.1.length+1) func192 (c:=d3 b0e) (by kernel_rfl) (e2a x.1 x.2 hx) (b8 (by kernel_rfl))
theorem d8v (l:List Hd) (h:Hd) (h0:Z4 (l,h)):body prog (b3 []) a3A (l.length+1) a6X (U6 (l,h))=some (erB 2 (a8S (l,h))):=by
 have hlm:=lm
 have hl:l.length≤LM:=h0
 unfold U6 a8S
 dsimp only
 rw [e1X,show a4t l h 0=(fun i:Nat=>a4t l h (i:Nat)) 0 from rfl,
  a6j l.length (fun i:Nat=>a4t l h (i:Nat)) (b2D l h l.length) 0 (fun i=>decide (l[i]?=some h)) .ret (by simp) (fun i=>b2C l h i) (fun i K hi=>?_) (fun K=>?_) _ (Nat.le_refl _)]
 ·have hh:=c6X l h
  unfold ixH at hh
  cases hf:(List.range l.length).find? (fun i=>decide (l[i]?=some h)) with
  | some i =>
   rw [hf] at hh
   rw [← hh,show decide (0≤(i:Int))=true from decide_eq_true (Int.natCast_nonneg i)]
   exact c6V l h i _
  | none =>
   rw [hf] at hh
   rw [← hh]
   exact c6W l h l.length _
 ·have hx:=List.getElem?_eq_getElem hi
  rw [b7T]
  simp (disch:=omega) only [f4,hi,d6 hx,hx,Hd.cs,o3,A1,a6F,a6G,a6H,c0V]
 ·rw [b7T]
  simp only [p8,Nat.lt_irrefl,decide_false,cond_false]
theorem d6i:d8 prog F4 F3:=g8 b9P fun x hx =>
 b9 (φ:=(b3 [])) b5 d9 (kp:=a3A) (n:=x.1.length+1) func125 (c:=d3 a6X) (by kernel_rfl) (d8v x.1 x.2 hx) (b8 (by kernel_rfl))
/-- What DeleteFunc holds behind j elements: what is kept of these, then what lay there. -/
def kpF {α:Type} (p:α→Bool) (l:List α) (j:Nat):List α:=(l.take j).filter p
def kpA {α:Type} (p:α→Bool) (l:List α) (j:Nat):List α:=kpF p l j ++ l.drop (kpF p l j).length
theorem a8T {α:Type} (p:α→Bool) (l:List α) {j:Nat} (h:j≤l.length):(kpF p l j).length≤j:=by
 have:=List.length_filter_le p (l.take j)
 rw [List.length_take] at this
 unfold kpF
 omega
theorem e9w {α:Type} (p:α→Bool) (l:List α) {j:Nat} (h:j≤l.length):(kpA p l j).length=l.length:=by
 have:=a8T p l h
 unfold kpA
 rw [List.length_append,List.length_drop]
 omega
theorem e9x {α:Type} (p:α→Bool) (l:List α) {j:Nat} (h:j≤l.length):(kpA p l j)[j]?=l[j]?:=by
 have:=a8T p l h
 unfold kpA
 rw [List.getElem?_append_right this,List.getElem?_drop]
 congr 1
 omega
theorem a5Q {α:Type} (p:α→Bool) {l:List α} {j:Nat} {x:α} (hx:l[j]?=some x):kpF p l (j+1)=bif p x then kpF p l j ++ [x] else kpF p l j:=by
 unfold kpF
 rw [List.take_add_one,hx,List.filter_append]
 cases hp:p x with
 | true=>simp [hp]
 | false=>simp [hp]
theorem e5E {α:Type} (p:α→Bool) {l:List α} {j:Nat} {x:α} (hx:l[j]?=some x):kpA p l (j+1)=bif p x then (kpA p l j).set (kpF p l j).length x else kpA p l j:=by
 have hj:=(List.getElem?_eq_some_iff.1 hx).1
 have hle:=a8T p l (Nat.le_of_lt hj)
 unfold kpA
 rw [a5Q p hx]
 cases p x with
 | false=>rfl
 | true =>
  simp only [cond_true]
  rw [List.set_append_right _ _ (Nat.le_refl _),Nat.sub_self,List.length_append,List.length_singleton]
  have hd:l.drop (kpF p l j).length=(l[(kpF p l j).length]'(by omega))::l.drop ((kpF p l j).length+1):=List.drop_eq_getElem_cons (by omega)
  rw [hd,List.set_cons_zero,List.append_assoc]
  rfl
theorem d6j {α:Type} (p:α→Bool) {l:List α} {i:Nat} (h:∀ j,j < i→∀ x,l[j]?=some x→p x=true):kpF p l i=l.take i:=by
 unfold kpF
 refine List.filter_eq_self.2 fun x hx=>?_
 obtain ⟨j,hj,e⟩:=List.getElem_of_mem hx
 rw [List.length_take] at hj
 refine h j (by omega) x ?_
 rw [List.getElem_take] at e
 rw [← e]
 exact List.getElem?_eq_getElem _
theorem d2z {α:Type} {l:List α} {j:Nat} {x y:α} (h:l[j]?=some x):(l.set j y)[j]?=some y:=by
 rw [List.getElem?_set_self (List.getElem?_eq_some_iff.1 h).1]
theorem e2b (l:List Hd) (h:Hd) (h0:a6W (l,h)):∃ g,body prog c2R a8R (l.length+1) b2B (a2A (l,h))=some ([oT (.arr 2 (a5g (l,h)).length g)],[nul,nul])∧∀ j k,j < (a5g (l,h)).length→k < 2→g j k=atL Hd.cs (a5g (l,h)) j k:=by
 have hlm:=lm
 have hl:l.length≤LM:=h0
 have c0:a6R (l,h):=hl
 obtain ⟨p,hp⟩:∃ p:Hd→Bool,p=fun y=>!decide (y=h):=⟨_,rfl⟩
 have hf:a5g (l,h)=kpF p l l.length:=by
  unfold a5g kpF
  rw [List.take_length,hp]
 unfold a2A
 dsimp only
 rw [e5D]
 simp only [f4,i6,Nat.le_refl,G8,List.length_cons,List.length_nil,Nat.reduceAdd]
 rw [b4 (e9s c0) (e9t c0)]
 simp only [f1P,A1]
 rcases e1Y l h with ⟨i0,e,hi0,hlt,hno⟩ | ⟨e,hn⟩
 ·have hne:¬ (i0:Int)=-1:=by omega
  have hpre:kpF p l i0=l.take i0:=d6j p fun j hj x hx=>by
   rw [hp]
   have this:x≠h:=fun e=>hno j hj (by rw [hx,e])
   simp [this]
  have hph:p h=false:=by rw [hp];simp
  have hF1:kpF p l (i0+1)=l.take i0:=by rw [a5Q p hi0,hph,cond_false,hpre]
  have hA1:kpA p l (i0+1)=l:=by
   unfold kpA
   rw [hF1,List.length_take,Nat.min_eq_left (Nat.le_of_lt hlt),List.take_append_drop]
  have hL1:(kpF p l (i0+1)).length=i0:=by rw [hF1,List.length_take];omega
  rw [e]
  simp (disch:=omega) only [hne,decide_false,cond_false,o3]
  have hst:a3z l h l.length (atL Hd.cs l) (i0:Int) ((i0+1:Nat):Int)=(fun t:Nat=>a3z l h l.length (atL Hd.cs (kpA p l (i0+1+t))) ((kpF p l (i0+1+t)).length:Int) ((i0+1+t:Nat):Int)) 0:=by
   simp only [Nat.add_zero,hA1,hL1]
  rw [hst,v5 (l.length - (i0+1)) (fun t:Nat=>a3z l h l.length (atL Hd.cs (kpA p l (i0+1+t))) ((kpF p l (i0+1+t)).length:Int) ((i0+1+t:Nat):Int)) (b5d l h l.length (atL Hd.cs (kpA p l l.length)) ((kpF p l l.length).length:Int) (l.length:Int)) 0 (fun t K ht=>?_) (fun K=>?_) _ (by omega)]
  ·have hle:=a8T p l (Nat.le_refl l.length)
   have q1:((kpF p l l.length).length:Int)≤(l.length:Int):=by omega
   have q2:(kpF p l l.length).length+(l.length - (kpF p l l.length).length)≤l.length:=by omega
   rw [c9f]
   simp only [f4,q1,q2,i6,Nat.le_refl,Int.le_refl,Nat.sub_zero,hle]
   rw [hf]
   refine ⟨_,rfl,fun j k hj hk=>?_⟩
   unfold Z8
   rw [i6,decide_eq_false (by omega:¬ (kpF p l l.length).length≤j)]
   simp only [Bool.false_and,Bool.and_false,cond_false]
   unfold atL kpA
   rw [List.getElem?_append_left hj]
  ·have hjt:i0+1+t < l.length:=by omega
   have hx:=List.getElem?_eq_getElem hjt
   obtain ⟨x,hxe⟩:∃ x,x=l[i0+1+t]:=⟨_,rfl⟩
   rw [← hxe] at hx
   have hAx:(kpA p l (i0+1+t))[i0+1+t]?=some x:=by rw [e9x p l (Nat.le_of_lt hjt),hx]
   have hle:=a8T p l (Nat.le_of_lt hjt)
   have hF:=a5Q p hx
   have hA:=e5E p hx
   have q0:(kpF p l (i0+1+t)).length < l.length:=by omega
   have w1:IntKind.i64.wrap (((i0+1+t:Nat):Int)+1)=((i0+1+(t+1):Nat):Int):=o3 (by omega)
   have w2:IntKind.i64.wrap (((kpF p l (i0+1+t)).length:Int)+1)=(((kpF p l (i0+1+t)).length+1:Nat):Int):=o3 (by omega)
   have e1:i0+1+(t+1)=i0+1+t+1:=by omega
   rw [b9O]
   simp only [f4,hjt,q0,d6 hAx,Hd.cs,w1,w2,A1,a6F,a6G,a6H,c0V]
   rw [e1,hF,hA]
   have hpx:p x=!decide (some x=some h):=by rw [hp];simp
   rw [← hpx]
   cases hb:p x with
   | false=>rfl
   | true =>
    simp only [cond_true]
    have hFl:(kpF p l (i0+1+t)).length < (kpA p l (i0+1+t)).length:=by rw [e9w p l (Nat.le_of_lt hjt)];exact q0
    obtain ⟨y,hy⟩:∃ y,(kpA p l (i0+1+t))[(kpF p l (i0+1+t)).length]?=some y:=⟨_,List.getElem?_eq_getElem hFl⟩
    rw [w6 (y:={ y with slot:=x.slot }) hy rfl (by decide:0 < 2),w6 (y:=x) (d2z hy) rfl (by decide:1 < 2),List.set_set,List.length_append]
    rfl
  ·have e1:i0+1+(l.length - (i0+1))=l.length:=by omega
   rw [b9O]
   simp only [e1,p8,Nat.lt_irrefl,decide_false,cond_false]
 ·have hff:a5g (l,h)=l:=by
   unfold a5g
   refine List.filter_eq_self.2 fun x hx=>?_
   simp only [Bool.not_eq_true',decide_eq_false_iff_not]
   intro e'
   have e':x=h:=e'
   rw [e'] at hx
   exact hn hx
  rw [e,hff]
  simp only [decide_true,cond_true]
  exact ⟨_,rfl,fun _ _ _ _=>rfl⟩
theorem f1T:d8 prog b0g b0f:=g8 c1T fun x hx=>by
 obtain ⟨g,hb,hg⟩:=e2b x.1 x.2 hx
 exact a1N.cut1 (b9 (φ:=c2R) (a9 f1R (a9 d6f b5)) d9 (kp:=a8R) (n:=x.1.length+1) func150 (c:=d3 b2B) (by kernel_rfl) hb (b8 (by kernel_rfl))) hg
end Go.Mach.F
namespace Go.Mach.F
open Go Go.Mach Go.Proofs.Tryz Go.IntKind
--=set_option maxRecDepth 100000
def a7R:Nat:=149
noncomputable abbrev e2c:Func:=f149
def e9y:List (Nat × List Nat):=[(0,kq [0,7]),(1,[16])]
noncomputable def a7S:Ent:=inl [] prog (b3 [(e1W,e1V)]) e9y 0 e2c
theorem e2d:d8 prog a7R a7S:=p6 (a9 f1S b5) d9 (c:=d3 e2c) func149 (by kernel_rfl) (b8 (by kernel_rfl))
def allK (rs:List Rm):List Hd:=rs.flatMap Rm.kids
def tlK (rs:List Rm) (h:Hd):Nat:=bif decide (rof rs h < 0) then 0 else (rs.getD (rof rs h).toNat zRm).tags.length
def T5:Nat→List Rm→Hd→List Hd × List Int→List Hd × List Int
 | 0,_,_,a=>a
 | n+1,rs,h,a=>bif a1q a.1 h then a else bif decide (rof rs h < 0) then (a.1 ++ [h],a.2) else (rs.getD (rof rs h).toNat zRm).kids.foldl (fun a kid=>T5 n rs kid a) (a.1 ++ [h],a.2 ++ (rs.getD (rof rs h).toNat zRm).tags.reverse)
def P8:Nat→List Rm→Hd→List Hd→List Int × List Hd
 | 0,_,_,a=>([],a)
 | n+1,rs,h,a=>bif decide (rof rs h < 0) || a1q a h then ([],a) else (rs.getD (rof rs h).toNat zRm).kids.foldl (fun b kid=>(b.1 ++ (P8 n rs kid b.2).1,(P8 n rs kid b.2).2)) ((rs.getD (rof rs h).toNat zRm).tags.reverse,a ++ [h])
def a0b (f:Hd→Nat) (l:List Hd):Nat:=(l.map f).foldr (·+·) 0
/-- What a walk down has met: handles of the model, or the first one, each once. -/
structure MetOk (rs:List Rm) (h0:Hd) (met:List Hd):Prop where
 nd:met.Nodup
 sub:∀ x∈met,x=h0∨x∈allK rs
structure GatOk (k:Nat) (m:Ml) (h:Hd) (met:List Hd):Prop where
 rooms:ok_RmS m.rooms
 kids:(allK m.rooms).length < LM
 tags:cntL (fun r=>r.tags.length) m.rooms≤LM
 walk:∃ h0,MetOk m.rooms h0 met∧(h=h0∨h∈allK m.rooms)
 fuel:(allK m.rooms).length+2≤met.length+k
def a5h (k:Nat) (x:Ml × Hd × List Hd × List Int):Prop:=GatOk k x.1 x.2.1 x.2.2.1∧x.2.2.2.length≤a0b (tlK x.1.rooms) x.2.2.1
def a3B (x:Ml × Hd × List Hd × List Int):List Arg:=[aR x.1.cs,aR x.2.1.cs,vT (eL 2 Hd.cs x.2.2.1),vT (eI x.2.2.2)]
def b3Z (k:Nat) (x:Ml × Hd × List Hd × List Int):List Hd × List Int:=T5 k x.1.rooms x.2.1 (x.2.2.1,x.2.2.2)
noncomputable def a1Y (k:Nat):Ent:=ent [0,0,3,3] (a5h k) a3B (fun (x:List Hd × List Int)=>([oT (eL 2 Hd.cs x.1),oT (eI x.2)],[nul,nul,nul,nul])) (b3Z k)
def a2B (k:Nat) (x:Ml × Hd × List Hd):Prop:=GatOk k x.1 x.2.1 x.2.2
def a1r (x:Ml × Hd × List Hd):List Arg:=[aR x.1.cs,aR x.2.1.cs,vT (eL 2 Hd.cs x.2.2)]
def b0h (k:Nat) (x:Ml × Hd × List Hd):List Int × List Hd:=P8 k x.1.rooms x.2.1 x.2.2
noncomputable def K0 (k:Nat):Ent:=ent [0,0,3] (a2B k) a1r (fun (x:List Int × List Hd)=>([oT (eI x.1),oT (eL 2 Hd.cs x.2)],[nul,nul,nul])) (b0h k)
theorem b7k (x y:Ml × Hd × List Hd × List Int) (h:a3B x=a3B y):x=y:=by
 obtain ⟨m1,h1,a1,b1⟩:=x
 obtain ⟨m2,h2,a2,b2⟩:=y
 simp only [a3B,List.cons.injEq,and_true,true_and] at h
 obtain ⟨e0,e1,e2,e3⟩:=h
 obtain rfl:=Ml.cs_ext (j6 e0)
 obtain rfl:=Hd.cs_ext (j6 e1)
 obtain rfl:=m8 Hd.cs_inj (a5b e2)
 obtain rfl:=J3 (a5b e3)
 rfl
theorem b5e (x y:Ml × Hd × List Hd) (h:a1r x=a1r y):x=y:=by
 obtain ⟨m1,h1,a1⟩:=x
 obtain ⟨m2,h2,a2⟩:=y
 simp only [a1r,List.cons.injEq,and_true,true_and] at h
 obtain ⟨e0,e1,e2⟩:=h
 obtain rfl:=Ml.cs_ext (j6 e0)
 obtain rfl:=Hd.cs_ext (j6 e1)
 obtain rfl:=m8 Hd.cs_inj (a5b e2)
 rfl
theorem e2e {k:Nat} {m:Ml} {h:Hd} {a:List Hd} {b:List Int} (h0:a5h k (m,h,a,b)):dom (a5h k) a3B [(wMl m),(wHd h),(3,false,[C.tr true (T.arr 2 a.length (atL Hd.cs a))]),(3,false,[C.tr true (T.arr 1 b.length (atL b6 b))])]=true:=i3 (ea:=a3B) (x:=(m,h,a,b)) h0
theorem e2f {k:Nat} {m:Ml} {h:Hd} {a:List Hd} {b:List Int} (h0:a5h k (m,h,a,b)):inv (a5h k) a3B [(wMl m),(wHd h),(3,false,[C.tr true (T.arr 2 a.length (atL Hd.cs a))]),(3,false,[C.tr true (T.arr 1 b.length (atL b6 b))])]=(m,h,a,b):=g9 b7k (x:=(m,h,a,b)) h0
theorem d6k {k:Nat} {m:Ml} {h:Hd} {a:List Hd} (h0:a2B k (m,h,a)):dom (a2B k) a1r [(wMl m),(wHd h),(3,false,[C.tr true (T.arr 2 a.length (atL Hd.cs a))])]=true:=i3 (ea:=a1r) (x:=(m,h,a)) h0
theorem d6l {k:Nat} {m:Ml} {h:Hd} {a:List Hd} (h0:a2B k (m,h,a)):inv (a2B k) a1r [(wMl m),(wHd h),(3,false,[C.tr true (T.arr 2 a.length (atL Hd.cs a))])]=(m,h,a):=g9 b5e (x:=(m,h,a)) h0
def a1Z:Nat:=146
noncomputable abbrev b7l:Func:=f146
def b2E:List (Nat × List Nat):=[(0,[8,12,16,17,20,21,10,14]),(1,[8,12,16,17,20,21,60,10,14]),(2,[32,36,10,14]),(3,[8,12,16,17,20,21,10,14]),(4,[8,12,16,17,40,10,14]),(5,[8,12,16,17,40,104,10,14]),(6,[32,36,10,14]),(7,[8,12,16,17,40,10,14]),(8,[8,12,16,17,152,156,160,164,168,172,176,180,10,14]),(9,[8,12,16,17,152,156,160,164,168,172,176,180,184,10,14]),(10,[8,12,16,17,48,49,152,156,160,164,168,172,176,180,10,14]),(11,[8,12,16,17,152,156,160,164,168,172,176,180,10,14]),(12,[8,12,16,17,152,156,160,164,168,172,176,180,10,14]),(13,[32,36,10,14])]
def e2g:List Nat:=[0,0,3,3]
def a8U (k:Nat) (m:Ml) (h:Hd) (a:List Hd) (b:List Int) (r2:Int) (nx8:Nat) (fx8:Nat→Nat→T) (nx12:Nat) (fx12:Nat→Nat→T) (x180:Int):St:=[va 2 (2) (nx8) (fx8),va 3 (1) (nx12) (fx12),vp 4 8,vb 4 [ci m.c.1,ci m.c.2,ci m.c.3,ci m.c.4,ci m.c.5,ci m.c.6,.tr false (eL 11 Rm.cs m.2),.tr false (eL 1 b6 m.3)],(152,⟨z0,[(false,[(C.pt (Pt.ptr 17 0 [] 8 0 6))])]⟩),(156,⟨z0,[(false,[.tr false (eL 11 Rm.cs m.2)])]⟩),vi 40 r2,(164,⟨z0,[(false,[(C.pt (Pt.pim 11 (atL Rm.cs m.2 r2.toNat)))])]⟩),(168,⟨z0,[(false,[(C.pt (Pt.pim 7 fun i=>atL Rm.cs m.2 r2.toNat (4+i)))])]⟩),(172,⟨z0,[(false,[.tr false (.arr (2) ((atL Rm.cs m.2 r2.toNat 4).ln) ((atL Rm.cs m.2 r2.toNat 4).fn))])]⟩),vi 44 (↑(atL Rm.cs m.2 r2.toNat 4).ln:Int),vi 45 x180]
def b7m (k:Nat) (m:Ml) (h:Hd) (a:List Hd) (b:List Int) (r2:Int) (nx8:Nat) (fx8:Nat→Nat→T) (nx12:Nat) (fx12:Nat→Nat→T) (x180:Int):St:=[va 2 (2) (nx8) (fx8),va 3 (1) (nx12) (fx12),vp 4 8,vb 4 [ci m.c.1,ci m.c.2,ci m.c.3,ci m.c.4,ci m.c.5,ci m.c.6,.tr false (eL 11 Rm.cs m.2),.tr false (eL 1 b6 m.3)],(152,⟨z0,[(false,[(C.pt (Pt.ptr 17 0 [] 8 0 6))])]⟩),(156,⟨z0,[(false,[.tr false (eL 11 Rm.cs m.2)])]⟩),vi 40 r2,(164,⟨z0,[(false,[(C.pt (Pt.pim 11 (atL Rm.cs m.2 r2.toNat)))])]⟩),(168,⟨z0,[(false,[(C.pt (Pt.pim 7 fun i=>atL Rm.cs m.2 r2.toNat (4+i)))])]⟩),(172,⟨z0,[(false,[.tr false (.arr (2) ((atL Rm.cs m.2 r2.toNat 4).ln) ((atL Rm.cs m.2 r2.toNat 4).fn))])]⟩),vi 44 (↑(atL Rm.cs m.2 r2.toNat 4).ln:Int),vi 45 x180,ve 184]
theorem c1U (k:Nat) (m:Ml) (h:Hd) (a:List Hd) (b:List Int) (r2:Int) (nx8:Nat) (fx8:Nat→Nat→T) (nx12:Nat) (fx12:Nat→Nat→T) (x180:Int) (n:Nat) (K:Ex→St→Res):i8 prog (b3 [(a7R,a7S),(Q8,Q7),(X1,X0),(a1Z,a1Y k)]) b2E b7l (ons 6 [0,1,0]) n (a8U k m h a b r2 nx8 fx8 nx12 fx12 x180) K=(bif decide (x180 < (↑(atL Rm.cs m.2 r2.toNat 4).ln:Int)) then gd (decide (0≤x180)&&(x180.toNat.blt (atL Rm.cs m.2 r2.toNat 4).ln&&true))<|gd (T.isI i64 ((atL Rm.cs m.2 r2.toNat 4).fn x180.toNat 0)&&T.isI i64 ((atL Rm.cs m.2 r2.toNat 4).fn x180.toNat 1))<|gl nx8<|gl nx12<|d7 (a5h k) a3B (b3Z k) [(wMl m),(0,true,[C.tr false (T.int i64 ((atL Rm.cs m.2 r2.toNat 4).fn x180.toNat 0).toI),C.tr false (T.int i64 ((atL Rm.cs m.2 r2.toNat 4).fn x180.toNat 1).toI)]),(3,false,[C.tr true (T.arr 2 nx8 fx8)]),(3,false,[C.tr true (T.arr 1 nx12 fx12)])] fun (r4:List Hd × List Int)=>gl r4.1.length<|gl r4.2.length<|K .normal (a8U k m h a b r2 (r4.1.length) ((eL 2 Hd.cs r4.1).fn) (r4.2.length) (atL b6 r4.2) (i64.wrap (x180+1))) else K (.exit 0) (b7m k m h a b r2 nx8 fx8 nx12 fx12 x180)):=by kernel_rfl
theorem d2A (k:Nat) (m:Ml) (h:Hd) (a:List Hd) (b:List Int) (r2:Int) (nx8:Nat) (fx8:Nat→Nat→T) (nx12:Nat) (fx12:Nat→Nat→T) (x180:Int) (n:Nat):d5 prog (b3 [(a7R,a7S),(Q8,Q7),(X1,X0),(a1Z,a1Y k)]) b2E b7l e2g (ons 6 [0,1,0]) [] n (.exit 0) (b7m k m h a b r2 nx8 fx8 nx12 fx12 x180)=(gl nx8<|gl nx12<|gl nx8<|gl nx12<|some ([(false,[.tr true (.arr (2) (nx8) (fx8))]),(false,[.tr true (.arr (1) (nx12) (fx12))])],(nu 4))):=by kernel_rfl
theorem e9z (k:Nat) (m:Ml) (h:Hd) (a:List Hd) (b:List Int) (n:Nat):body prog (b3 [(a7R,a7S),(Q8,Q7),(X1,X0),(a1Z,a1Y k)]) b2E n b7l [aR m.cs,aR h.cs,vT (eL 2 Hd.cs a),vT (eI b)]=(gd ((0+a.length).ble a.length)<|d7 a0i a0j (a5f) [(0,false,[C.tr false (T.arr 2 a.length (l3 0 a.length (eL 2 Hd.cs a).fn))]),(wHd h)] fun (r1:Int)=>bif decide (0≤r1) then gl a.length<|gl b.length<|gl a.length<|gl b.length<|some ([(false,[.tr true (.arr (2) (a.length) ((eL 2 Hd.cs a).fn))]),(false,[.tr true (.arr (1) (b.length) (atL b6 b))])],(nu 4)) else gl a.length<|gd (((a.length+1)*16).ble 70368744177664&&(a.length+1).ble 70368744177664)<|gd ((a.length+1).ble (a.length+1)&&true)<|d7 z3 B7 (W5) [(wMl m),(wHd h)] fun (r2:Int)=>bif decide (r2 < 0) then gd ((a.length+1).ble (a.length+1)&&true)<|gl b.length<|gd ((a.length+1).ble (a.length+1)&&true)<|gl b.length<|some ([(false,[.tr true (.arr (2) (a.length+1) (n6 a.length (eL 2 Hd.cs a).fn (n7 (l3 0 1 (i4 [[T.int i64 h.1,T.int i64 h.2]])))))]),(false,[.tr true (.arr (1) (b.length) (atL b6 b))])],(nu 4)) else gd (decide (0≤r2)&&(r2.toNat.blt m.2.length&&true))<|gd ((atL Rm.cs m.2 r2.toNat 10).isArr&&(atL Rm.cs m.2 r2.toNat 10).wd.beq 1)<|d7 T3 J8 (a5d) [(0,false,[C.tr false (T.arr 1 (atL Rm.cs m.2 r2.toNat 10).ln (atL Rm.cs m.2 r2.toNat 10).fn)])] fun (r3:List Int)=>gl b.length<|gd ((0+r3.length).ble r3.length)<|gd (((b.length+r3.length)*8).ble 70368744177664&&(b.length+r3.length).ble 70368744177664)<|gd ((b.length+r3.length).ble (b.length+r3.length)&&true)<|gd (decide (0≤r2)&&(r2.toNat.blt m.2.length&&true))<|gd ((atL Rm.cs m.2 r2.toNat 4).isArr&&(atL Rm.cs m.2 r2.toNat 4).wd.beq 2)<|j5 prog (b3 [(a7R,a7S),(Q8,Q7),(X1,X0),(a1Z,a1Y k)]) b2E b7l (ons 6 [0,1,0]) n n (a8U k m h a b r2 (a.length+1) (n6 a.length (eL 2 Hd.cs a).fn (n7 (l3 0 1 (i4 [[T.int i64 h.1,T.int i64 h.2]])))) (b.length+r3.length) (n6 b.length (atL b6 b) (n7 (l3 0 r3.length (atL b6 r3)))) (0)) (d5 prog (b3 [(a7R,a7S),(Q8,Q7),(X1,X0),(a1Z,a1Y k)]) b2E b7l e2g (ons 6 [0,1,0]) [] n)):=by kernel_rfl
def K1:Nat:=124
noncomputable abbrev b2F:Func:=f124
def a8V:List (Nat × List Nat):=[(0,[8,12,13,16,17,76,80,84,10]),(1,[8,12,13,16,17,32,76,80,84,10]),(2,[8,12,13,16,17,32,88,10]),(3,[24,28,10]),(4,[8,12,13,32,10]),(5,[8,12,13,32,36,10]),(6,[8,12,13,32,36,40,10]),(7,[8,12,13,32,36,40,184,10]),(8,[8,12,13,32,36,40,10]),(9,[12,13,32,36,40,44,48,10]),(10,[12,13,32,36,40,48,10]),(11,[8,12,13,32,36,40,10]),(12,[24,28,10])]
def d6m:List Nat:=[0,0,3]
def a6Y (k:Nat) (m:Ml) (h:Hd) (a:List Hd) (r1:Int) (nx8:Nat) (fx8:Nat→Nat→T) (nx36:Nat) (fx36:Nat→Nat→T) (x40:Int):St:=[va 2 (2) (nx8) (fx8),vp 3 8,vb 3 [ci m.c.1,ci m.c.2,ci m.c.3,ci m.c.4,ci m.c.5,ci m.c.6,.tr false (eL 11 Rm.cs m.2),.tr false (eL 1 b6 m.3)],vi 8 r1,va 9 (1) (nx36) (fx36),vi 10 x40]
def b5f (k:Nat) (m:Ml) (h:Hd) (a:List Hd) (r1:Int) (nx8:Nat) (fx8:Nat→Nat→T) (nx36:Nat) (fx36:Nat→Nat→T) (x40:Int):St:=[va 2 (2) (nx8) (fx8),vp 3 8,vb 3 [ci m.c.1,ci m.c.2,ci m.c.3,ci m.c.4,ci m.c.5,ci m.c.6,.tr false (eL 11 Rm.cs m.2),.tr false (eL 1 b6 m.3)],vi 8 r1,va 9 (1) (nx36) (fx36),vi 10 x40,ve 184]
theorem b9Q (k:Nat) (m:Ml) (h:Hd) (a:List Hd) (r1:Int) (nx8:Nat) (fx8:Nat→Nat→T) (nx36:Nat) (fx36:Nat→Nat→T) (x40:Int) (n:Nat) (K:Ex→St→Res):i8 prog (b3 [(Q6,Q5),(F4,F3),(X3,X2),(K1,K0 k)]) a8V b2F (ons 5 [0,1,0]) n (a6Y k m h a r1 nx8 fx8 nx36 fx36 x40) K=(gd (decide (0≤r1)&&(r1.toNat.blt m.2.length&&true))<|gd ((atL Rm.cs m.2 r1.toNat 4).isArr&&(atL Rm.cs m.2 r1.toNat 4).wd.beq 2)<|bif decide (x40 < (↑(atL Rm.cs m.2 r1.toNat 4).ln:Int)) then gd (decide (0≤r1)&&(r1.toNat.blt m.2.length&&true))<|gd ((atL Rm.cs m.2 r1.toNat 4).isArr&&(atL Rm.cs m.2 r1.toNat 4).wd.beq 2)<|gd (decide (0≤x40)&&(x40.toNat.blt (atL Rm.cs m.2 r1.toNat 4).ln&&true))<|gd (T.isI i64 ((atL Rm.cs m.2 r1.toNat 4).fn x40.toNat 0)&&T.isI i64 ((atL Rm.cs m.2 r1.toNat 4).fn x40.toNat 1))<|gl nx8<|d7 (a2B k) a1r (b0h k) [(wMl m),(0,true,[C.tr false (T.int i64 ((atL Rm.cs m.2 r1.toNat 4).fn x40.toNat 0).toI),C.tr false (T.int i64 ((atL Rm.cs m.2 r1.toNat 4).fn x40.toNat 1).toI)]),(3,false,[C.tr true (T.arr 2 nx8 fx8)])] fun (r4:List Int × List Hd)=>gl r4.1.length<|gl r4.2.length<|gl nx36<|gd ((0+r4.1.length).ble r4.1.length)<|gd (((nx36+r4.1.length)*8).ble 70368744177664&&(nx36+r4.1.length).ble 70368744177664)<|gd ((nx36+r4.1.length).ble (nx36+r4.1.length)&&true)<|gl r4.2.length<|K .normal (a6Y k m h a r1 (r4.2.length) ((eL 2 Hd.cs r4.2).fn) (nx36+r4.1.length) (n6 nx36 fx36 (n7 (l3 0 r4.1.length (atL b6 r4.1)))) (i64.wrap (x40+1))) else K (.exit 0) (b5f k m h a r1 nx8 fx8 nx36 fx36 x40)):=by kernel_rfl
theorem c9g (k:Nat) (m:Ml) (h:Hd) (a:List Hd) (r1:Int) (nx8:Nat) (fx8:Nat→Nat→T) (nx36:Nat) (fx36:Nat→Nat→T) (x40:Int) (n:Nat):d5 prog (b3 [(Q6,Q5),(F4,F3),(X3,X2),(K1,K0 k)]) a8V b2F d6m (ons 5 [0,1,0]) [] n (.exit 0) (b5f k m h a r1 nx8 fx8 nx36 fx36 x40)=(gl nx36<|gl nx8<|gl nx36<|gl nx8<|some ([(false,[.tr true (.arr (1) (nx36) (fx36))]),(false,[.tr true (.arr (2) (nx8) (fx8))])],(nu 3))):=by kernel_rfl
theorem e5F (k:Nat) (m:Ml) (h:Hd) (a:List Hd) (n:Nat):body prog (b3 [(Q6,Q5),(F4,F3),(X3,X2),(K1,K0 k)]) a8V n b2F [aR m.cs,aR h.cs,vT (eL 2 Hd.cs a)]=(d7 u5 w9 (H2) [(wMl m),(wHd h)] fun (r1:Int)=>bif decide (r1 < 0) then gl a.length<|gl a.length<|some ([(false,[.tr true (.arr (1) (0) (i4 []))]),(false,[.tr true (.arr (2) (a.length) ((eL 2 Hd.cs a).fn))])],(nu 3)) else gd ((0+a.length).ble a.length)<|d7 Z4 U6 (a8S) [(0,false,[C.tr false (T.arr 2 a.length (l3 0 a.length (eL 2 Hd.cs a).fn))]),(wHd h)] fun (r2:Bool)=>bif r2 then gl a.length<|gl a.length<|some ([(false,[.tr true (.arr (1) (0) (i4 []))]),(false,[.tr true (.arr (2) (a.length) ((eL 2 Hd.cs a).fn))])],(nu 3)) else gd ((0+a.length).ble a.length)<|gd (((0+a.length)*16).ble 70368744177664&&(0+a.length).ble 70368744177664)<|gd ((0+a.length).ble (0+a.length)&&true)<|gd (((0+a.length+1)*16).ble 70368744177664&&(0+a.length+1).ble 70368744177664)<|gd ((0+a.length+1).ble (0+a.length+1)&&true)<|gd (decide (0≤r1)&&(r1.toNat.blt m.2.length&&true))<|gd ((atL Rm.cs m.2 r1.toNat 10).isArr&&(atL Rm.cs m.2 r1.toNat 10).wd.beq 1)<|d7 T4 J9 (a5e) [(0,false,[C.tr false (T.arr 1 (atL Rm.cs m.2 r1.toNat 10).ln (atL Rm.cs m.2 r1.toNat 10).fn)])] fun (r3:List Int)=>gl r3.length<|j5 prog (b3 [(Q6,Q5),(F4,F3),(X3,X2),(K1,K0 k)]) a8V b2F (ons 5 [0,1,0]) n n (a6Y k m h a r1 (0+a.length+1) (n6 (0+a.length) (n6 0 (i4 []) (n7 (l3 0 a.length (eL 2 Hd.cs a).fn))) (n7 (l3 0 1 (i4 [[T.int i64 h.1,T.int i64 h.2]])))) (r3.length) (atL b6 r3) (0)) (d5 prog (b3 [(Q6,Q5),(F4,F3),(X3,X2),(K1,K0 k)]) a8V b2F d6m (ons 5 [0,1,0]) [] n)):=by kernel_rfl
end Go.Mach.F
namespace Go.Mach.F
open Go Go.Mach Go.Proofs.Tryz
theorem c4W (l:List Rm) (h:Hd):(∃ i:Nat,rof l h=(i:Int)∧l[i]?.map Rm.h=some h∧i < l.length∧∀ j,j < i→l[j]?.map Rm.h≠some h)∨(rof l h=-1∧∀ j:Nat,l[j]?.map Rm.h≠some h):=by
 unfold rof
 cases hf:(List.range l.length).find? (fun i=>decide (l[i]?.map Rm.h=some h)) with
 | some i =>
  obtain ⟨h1,h2,h3⟩:=List.find?_range_eq_some.1 hf
  refine .inl ⟨i,rfl,of_decide_eq_true h1,List.mem_range.1 h2,fun j hj e=>?_⟩
  have:=h3 j hj
  simp [e] at this
 | none =>
  refine .inr ⟨rfl,fun j e=>?_⟩
  by_cases hj:j < l.length
  ·have:=List.find?_eq_none.1 hf j (List.mem_range.2 hj)
   simp only [decide_eq_true_eq] at this
   exact this e
  ·rw [List.getElem?_eq_none (by omega)] at e
   cases e
theorem e5G (r:Rm) (rs:List Rm) (h:Hd):rof (r::rs) h=if r.h=h then 0 else if rof rs h < 0 then -1 else rof rs h+1:=by
 rcases c4W (r::rs) h with ⟨i,e,hi,hl,hn⟩ | ⟨e,hn⟩
 ·rw [e]
  cases i with
  | zero =>
   simp at hi
   rw [if_pos hi]
   rfl
  | succ i =>
   have h0:=hn 0 (by omega)
   simp at h0
   rw [if_neg h0]
   rcases c4W rs h with ⟨i',e',hi',hl',hn'⟩ | ⟨e',hn'⟩
   ·rw [e',if_neg (by omega)]
    have:i'=i:=by
     simp only [List.getElem?_cons_succ] at hi
     rcases Nat.lt_trichotomy i' i with h1 | h1 | h1
     ·exact absurd (by simpa using hi') (hn (i'+1) (by omega))
     ·exact h1
     ·exact absurd hi (hn' i h1)
    rw [this]
    rfl
   ·simp only [List.getElem?_cons_succ] at hi
    exact absurd hi (hn' i)
 ·rw [e]
  have h0:=hn 0
  simp at h0
  rw [if_neg h0]
  rcases c4W rs h with ⟨i',e',hi',hl',hn'⟩ | ⟨e',hn'⟩
  ·exact absurd (by simpa using hi') (hn (i'+1))
  ·rw [e']
   rfl
theorem d2B (r:Rm) (rs:List Rm) (h:Hd):tlK (r::rs) h=if r.h=h then r.tags.length else tlK rs h:=by
 unfold tlK
 rw [e5G]
 by_cases h1:r.h=h
 ·rw [if_pos h1,if_pos h1]
  rfl
 ·rw [if_neg h1,if_neg h1]
  by_cases h2:rof rs h < 0
  ·rw [if_pos h2,decide_eq_true h2]
   rfl
  ·rw [if_neg h2,decide_eq_false h2,decide_eq_false (by omega)]
   have:(rof rs h+1).toNat=(rof rs h).toNat+1:=by omega
   rw [this]
   rfl
theorem X4 (f:Hd→Nat) (x:Hd) (l:List Hd):a0b f (x::l)=f x+a0b f l:=rfl
theorem b7n (f:Hd→Nat) (l l':List Hd):a0b f (l ++ l')=a0b f l+a0b f l':=by
 induction l with
 | nil=>simp [a0b]
 | cons x l ih=>rw [List.cons_append,X4,X4,ih,Nat.add_assoc]
theorem d2C {r:Rm} {rs:List Rm} {l:List Hd} (h:r.h ∉ l):a0b (tlK (r::rs)) l=a0b (tlK rs) l:=by
 induction l with
 | nil=>rfl
 | cons x l ih =>
  rw [X4,X4,d2B,if_neg (fun e=>h (by rw [e];exact List.mem_cons_self)),ih fun hm=>h (List.mem_cons_of_mem _ hm)]
theorem d6n {r:Rm} {rs:List Rm} {l:List Hd} (h:l.Nodup):a0b (tlK (r::rs)) l≤r.tags.length+a0b (tlK rs) l:=by
 induction l with
 | nil=>exact Nat.zero_le _
 | cons x l ih =>
  rw [List.nodup_cons] at h
  rw [X4,X4,d2B]
  by_cases e:r.h=x
  ·rw [if_pos e,d2C (by rw [e];exact h.1)]
   omega
  ·rw [if_neg e]
   have:=ih h.2
   omega
theorem b1q (rs:List Rm) {l:List Hd} (h:l.Nodup):a0b (tlK rs) l≤cntL (fun r=>r.tags.length) rs:=by
 induction rs with
 | nil =>
  have:∀ l:List Hd,a0b (tlK []) l=0:=fun l=>by
   induction l with
   | nil=>rfl
   | cons x l ih=>rw [X4,ih];rfl
  rw [this]
  exact Nat.zero_le _
 | cons r rs ih =>
  have:=d6n (r:=r) (rs:=rs) h
  unfold cntL
  omega
theorem c8m:∀ {U l:List Hd},l.Nodup→(∀ x∈l,x∈U)→l.length≤U.length
 | [],l,_,hs=>by
  have:l=[]:=List.eq_nil_iff_forall_not_mem.2 fun x hx=>by simpa using hs x hx
  rw [this]
  exact Nat.le_refl _
 | u::U,l,h,hs=>by
  have h1:=c8m (U:=U) (l:=l.erase u) (h.erase u) fun x hx=>by
   rw [h.mem_erase_iff] at hx
   exact (List.mem_cons.1 (hs x hx.2)).resolve_left hx.1
  rw [List.length_erase] at h1
  simp only [List.length_cons]
  split at h1 <;> omega
theorem MetOk.len {rs:List Rm} {h0:Hd} {met:List Hd} (h:MetOk rs h0 met):met.length≤(allK rs).length+1:=by
 have:=c8m (U:=h0::allK rs) h.nd fun x hx=>by
  rcases h.sub x hx with rfl | h1
  ·exact List.mem_cons_self
  ·exact List.mem_cons_of_mem _ h1
 simpa using this
theorem MetOk.add {rs:List Rm} {h0 h:Hd} {met:List Hd} (hm:MetOk rs h0 met) (hh:h=h0∨h∈allK rs) (hn:h ∉ met):MetOk rs h0 (met ++ [h]) where
 nd:=by
  rw [List.nodup_append]
  refine ⟨hm.nd,by simp,fun a ha b hb=>?_⟩
  rw [List.mem_singleton] at hb
  subst hb
  intro e
  subst e
  exact hn ha
 sub:=fun x hx=>by
  rcases List.mem_append.1 hx with h1 | h1
  ·exact hm.sub x h1
  ·rw [List.mem_singleton.1 h1]
   exact hh
theorem b6i {rs:List Rm} {r:Rm} {kid:Hd} (hr:r∈rs) (hk:kid∈r.kids):kid∈allK rs:=List.mem_flatMap.2 ⟨r,hr,hk⟩
theorem a5R {α β:Type} (P:β→Prop) (f:β→α→β):∀ (l:List α) (b:β),P b→(∀ b x,x∈l→P b→P (f b x))→P (l.foldl f b)
 | [],_,h,_=>h
 | x::l,b,h,hf=>a5R P f l (f b x) (hf b x List.mem_cons_self h) fun b y hy=>hf b y (List.mem_cons_of_mem _ hy)
/-- What is kept along a walk. -/
def c2T (rs:List Rm) (h0:Hd) (n:Nat) (a:List Hd × List Int):Prop:=MetOk rs h0 a.1∧a.2.length≤a0b (tlK rs) a.1∧n≤a.1.length
theorem b1r {rs:List Rm} {h:Hd} (e:¬ rof rs h < 0):rs[(rof rs h).toNat]?=some (rs.getD (rof rs h).toNat zRm)∧rs.getD (rof rs h).toNat zRm∈rs∧tlK rs h=(rs.getD (rof rs h).toNat zRm).tags.length:=by
 have h1:=A2 (a4S e).2
 exact ⟨h1,List.mem_of_getElem? h1,by unfold tlK;rw [decide_eq_false e];rfl⟩
theorem c8n {rs:List Rm} {h0 h:Hd} {a:List Hd × List Int} {n:Nat} (hp:c2T rs h0 n a) (hh:h=h0∨h∈allK rs) (hn:h ∉ a.1) (e:¬ rof rs h < 0):c2T rs h0 (n+1) (a.1 ++ [h],a.2 ++ (rs.getD (rof rs h).toNat zRm).tags.reverse):=by
 refine ⟨hp.1.add hh hn,?_,?_⟩
 ·simp only [List.length_append,List.length_reverse,b7n]
  have:=hp.2.1
  have h3:=(b1r e).2.2
  have:a0b (tlK rs) [h]=tlK rs h:=by rw [X4];rfl
  omega
 ·have:=hp.2.2
  simp only [List.length_append,List.length_singleton]
  omega
theorem b2G (rs:List Rm) (h0:Hd):∀ (n:Nat) (h:Hd) (a:List Hd × List Int) (k:Nat),c2T rs h0 k a→(h=h0∨h∈allK rs)→c2T rs h0 k (T5 n rs h a)
 | 0,_,_,_,hp,_=>hp
 | n+1,h,a,k,hp,hh=>by
  unfold T5 a1q
  by_cases h1:h∈a.1
  ·rw [decide_eq_true h1]
   exact hp
  ·rw [decide_eq_false h1,cond_false]
   by_cases h2:rof rs h < 0
   ·rw [decide_eq_true h2,cond_true]
    refine ⟨hp.1.add hh h1,?_,?_⟩
    ·simp only [b7n]
     have:=hp.2.1
     omega
    ·have:=hp.2.2
     simp only [List.length_append,List.length_singleton]
     omega
   ·rw [decide_eq_false h2,cond_false]
    have hs:=c8n hp hh h1 h2
    have:=a5R (c2T rs h0 (k+1)) (fun a kid=>T5 n rs kid a) _ _ hs fun b x hx hb=>b2G rs h0 n x b (k+1) hb (.inr (b6i (b1r h2).2.1 hx))
    exact ⟨this.1,this.2.1,by have:=this.2.2;omega⟩
theorem c8o {α β:Type} (f:β→α→β) {l:List α} {i:Nat} {x:α} (h:l[i]?=some x) (b:β):(l.take (i+1)).foldl f b=f ((l.take i).foldl f b) x:=by
 rw [List.take_add_one,h,List.foldl_append]
 rfl
/-- What is kept along the reference's walk. -/
def b9R (rs:List Rm) (h0:Hd) (n c:Nat) (b:List Int × List Hd):Prop:=MetOk rs h0 b.2∧b.1.length+c≤a0b (tlK rs) b.2∧n≤b.2.length
theorem b9S (rs:List Rm) (h0:Hd):∀ (n:Nat) (h:Hd) (a:List Hd),MetOk rs h0 a→(h=h0∨h∈allK rs)→b9R rs h0 a.length (a0b (tlK rs) a) (P8 n rs h a)
 | 0,_,a,hm,_=>⟨hm,by simp [P8],Nat.le_refl _⟩
 | n+1,h,a,hm,hh=>by
  unfold P8 a1q
  by_cases h2:rof rs h < 0
  ·rw [decide_eq_true h2,Bool.true_or,cond_true]
   exact ⟨hm,by simp,Nat.le_refl _⟩
  by_cases h1:h∈a
  ·rw [decide_eq_true h1,Bool.or_true,cond_true]
   exact ⟨hm,by simp,Nat.le_refl _⟩
  rw [decide_eq_false h2,decide_eq_false h1,Bool.or_self,cond_false]
  have hs:b9R rs h0 (a.length+1) (a0b (tlK rs) a) ((rs.getD (rof rs h).toNat zRm).tags.reverse,a ++ [h]):=by
   refine ⟨hm.add hh h1,?_,by simp⟩
   simp only [List.length_reverse,b7n]
   have h3:=(b1r h2).2.2
   have:a0b (tlK rs) [h]=tlK rs h:=by rw [X4];rfl
   omega
  have:=a5R (b9R rs h0 (a.length+1) (a0b (tlK rs) a)) (fun (b:List Int × List Hd) kid=>(b.1 ++ (P8 n rs kid b.2).1,(P8 n rs kid b.2).2)) _ _ hs fun b x hx hb=>by
   have ih:=b9S rs h0 n x b.2 hb.1 (.inr (b6i (b1r h2).2.1 hx))
   refine ⟨ih.1,?_,?_⟩
   ·have h4:=ih.2.1
    have h5:=hb.2.1
    simp only [List.length_append]
    omega
   ·have h4:=ih.2.2
    have h5:=hb.2.2
    simp only
    omega
  exact ⟨this.1,this.2.1,by have:=this.2.2;omega⟩
/-- The two walks tell the same tags, and S8 the same rooms. -/
def c4X (rs:List Rm) (a b:List Hd):Prop:=∀ x,¬ rof rs x < 0→(x∈a↔x∈b)
theorem d2D (rs:List Rm):∀ (n:Nat) (h:Hd) (a b:List Hd) (t:List Int),c4X rs a b→(T5 n rs h (a,t)).2=t ++ (P8 n rs h b).1∧c4X rs (T5 n rs h (a,t)).1 (P8 n rs h b).2
 | 0,_,_,_,t,he=>⟨by simp [T5,P8],he⟩
 | n+1,h,a,b,t,he=>by
  unfold T5 P8 a1q
  by_cases h2:rof rs h < 0
  ·simp only [decide_eq_true h2,Bool.true_or,cond_true,List.append_nil]
   cases decide (h∈a) with
   | true=>exact ⟨rfl,he⟩
   | false =>
    refine ⟨rfl,fun x hx=>?_⟩
    simp only [cond_false,List.mem_append,List.mem_singleton]
    rw [he x hx]
    refine ⟨fun h3=>h3.resolve_right fun e=>?_,.inl⟩
    subst e
    exact hx h2
  ·simp only [decide_eq_false h2,Bool.false_or]
   by_cases h1:h∈a
   ·rw [decide_eq_true h1,decide_eq_true ((he h h2).1 h1)]
    exact ⟨by simp,he⟩
   ·rw [decide_eq_false h1,decide_eq_false fun h3=>h1 ((he h h2).2 h3)]
    simp only [cond_false]
    have hs:c4X rs (a ++ [h]) (b ++ [h]):=fun x hx=>by
     rw [List.mem_append,List.mem_append,he x hx]
    have key:∀ (l:List Hd) (a b:List Hd) (t u:List Int),c4X rs a b →
      (l.foldl (fun a kid=>T5 n rs kid a) (a,t ++ u)).2=t ++ (l.foldl (fun (b:List Int × List Hd) kid=>(b.1 ++ (P8 n rs kid b.2).1,(P8 n rs kid b.2).2)) (u,b)).1 ∧
      c4X rs (l.foldl (fun a kid=>T5 n rs kid a) (a,t ++ u)).1 (l.foldl (fun (b:List Int × List Hd) kid=>(b.1 ++ (P8 n rs kid b.2).1,(P8 n rs kid b.2).2)) (u,b)).2:=by
     intro l
     induction l with
     | nil=>intro a b t u h3;exact ⟨rfl,h3⟩
     | cons x l ih =>
      intro a b t u h3
      obtain ⟨k1,k2⟩:=d2D rs n x a b (t ++ u) h3
      simp only [List.foldl_cons]
      have e:T5 n rs x (a,t ++ u)=((T5 n rs x (a,t ++ u)).1,t ++ (u ++ (P8 n rs x b).1)):=by rw [← List.append_assoc,← k1]
      rw [e]
      exact ih _ _ t _ k2
    exact key _ _ _ t _ hs
end Go.Mach.F
namespace Go.Mach.F
open Go Go.Mach Go.Proofs.Tryz
theorem d2E (h:Hd):n7 (l3 0 1 (i4 [[T.int .i64 h.slot,T.int .i64 h.gen]]))=atL Hd.cs [h]:=by
 rw [show [T.int .i64 h.slot,T.int .i64 h.gen]=Hd.cs h from rfl,a9x Hd.cs,show l3 0 1 (atL Hd.cs [h])=atL Hd.cs [h] from G8 Hd.cs [h],b2g]
theorem d4j (l:List Int):n7 (l3 0 l.length (atL b6 l))=atL b6 l:=by rw [G8,a4n]
theorem c2U {rs:List Rm} {r:Rm} (h:r∈rs):r.kids.length≤(allK rs).length:=by
 induction rs with
 | nil=>cases h
 | cons x rs ih =>
  simp only [allK,List.flatMap_cons,List.length_append]
  rcases List.mem_cons.1 h with rfl | h1
  ·omega
  ·have:=ih h1
   unfold allK at this
   omega
theorem e5H (k:Nat) (m:Ml) (h:Hd) (a:List Hd) (b:List Int) (h0:a5h (k+1) (m,h,a,b)):body prog (b3 [(a7R,a7S),(Q8,Q7),(X1,X0),(a1Z,a1Y k)]) b2E ((m.rooms.getD (rof m.rooms h).toNat zRm).kids.length+1) b7l (a3B (m,h,a,b))=some ([oT (eL 2 Hd.cs (b3Z (k+1) (m,h,a,b)).1),oT (eI (b3Z (k+1) (m,h,a,b)).2)],[nul,nul,nul,nul]):=by
 have hlm:=lm
 obtain ⟨hG,hb⟩:=h0
 obtain ⟨g0,hm,hh⟩:=hG.walk
 have hl:m.rooms.length≤LM:=hG.rooms.1
 have ha:=hm.len
 have hk:=hG.kids
 have ht:=hG.tags
 have hf:=hG.fuel
 dsimp only at hl ha hk ht hf hb hm hh
 have hbl:=Nat.le_trans hb (b1q m.rooms hm.nd)
 have hal:a.length≤LM:=by omega
 have c0:a0i (a,h):=hal
 have c1:z3 (m,h):=hl
 have s1:(a.length+1)*16≤70368744177664:=by omega
 have s2:a.length+1≤70368744177664:=by omega
 unfold a3B b3Z T5
 dsimp only
 rw [e9z]
 simp only [f4,i6,Nat.le_refl,G8,Ml.cs,Hd.cs,s1,s2]
 rw [b4 (c6S c0) (c6T c0)]
 have hix:@decide (0≤a5f (a,h)) (Int.decLe 0 (a5f (a,h)))=decide (h∈a):=c6X a h
 rw [hix]
 simp only [a1q]
 by_cases h1:h∈a
 ·simp only [h1,decide_true,cond_true]
  rfl
 simp only [h1,decide_false,cond_false]
 rw [b4 (a1U c1) (a1V c1)]
 simp only [a3o,d2E,U5]
 by_cases h2:rof m.rooms h < 0
 ·simp only [h2,decide_true,cond_true,oT,l7,List.length_append,List.length_singleton]
  rfl
 have e1:=a4S h2
 obtain ⟨hx,hxm,_⟩:=b1r h2
 have hs:=c8n (a:=(a,b)) (n:=a.length) ⟨hm,hb,Nat.le_refl _⟩ hh h1 h2
 simp only at hs
 obtain ⟨x,hxe⟩:∃ x,x=m.rooms.getD (rof m.rooms h).toNat zRm:=⟨_,rfl⟩
 rw [← hxe] at hx hxm hs ⊢
 have hy:=hG.rooms.2 _ hxm
 have c2:T3 x.tags:=hy.2.2
 have hsl:=Nat.le_trans hs.2.1 (b1q m.rooms hs.1.nd)
 simp only [List.length_append,List.length_reverse] at hsl
 have s3:(b.length+x.tags.length)*8≤70368744177664:=by omega
 have s4:b.length+x.tags.length≤70368744177664:=by omega
 simp only [f4,h2,decide_false,cond_false,e1.1,e1.2,d6 hx,Rm.cs]
 rw [b4 (d2q c2) (d2r c2)]
 simp only [d4f,List.length_reverse,f4,i6,Nat.le_refl,s3,s4]
 obtain ⟨F,hF⟩:∃ F:List Hd × List Int→Hd→List Hd × List Int,F=fun a kid=>T5 k m.rooms kid a:=⟨_,rfl⟩
 obtain ⟨A,hA⟩:∃ A:Nat→List Hd × List Int,A=fun i=>(x.kids.take i).foldl F (a ++ [h],b ++ x.tags.reverse):=⟨_,rfl⟩
 have hAi:∀ i,c2T m.rooms g0 (a.length+1) (A i):=fun i=>by
  rw [hA]
  refine a5R (c2T m.rooms g0 (a.length+1)) F _ _ hs fun c y hy' hc=>?_
  rw [hF]
  exact b2G m.rooms g0 k y c _ hc (.inr (b6i hxm (List.mem_of_mem_take hy')))
 have hkl:=c2U hxm
 have hst:a8U k m h a b (rof m.rooms h) (a.length+1) (atL Hd.cs (a ++ [h])) (b.length+x.tags.length) (n6 b.length (atL b6 b) (n7 (atL b6 x.tags.reverse))) 0=(fun i:Nat=>a8U k m h a b (rof m.rooms h) (A i).1.length (atL Hd.cs (A i).1) (A i).2.length (atL b6 (A i).2) (i:Nat)) 0:=by
  rw [a4n,U5,hA]
  simp only [List.take_zero,List.foldl_nil,List.length_append,List.length_singleton,List.length_reverse]
  rfl
 rw [hst,v5 x.kids.length (fun i:Nat=>a8U k m h a b (rof m.rooms h) (A i).1.length (atL Hd.cs (A i).1) (A i).2.length (atL b6 (A i).2) (i:Nat)) (b7m k m h a b (rof m.rooms h) (A x.kids.length).1.length (atL Hd.cs (A x.kids.length).1) (A x.kids.length).2.length (atL b6 (A x.kids.length).2) x.kids.length) 0 (fun i K hi=>?_) (fun K=>?_) _ (Nat.le_refl _)]
 ·rw [d2A]
  simp only [f4,i6,Nat.le_refl,oT,l7]
  rw [hA]
  simp only [List.take_length,hF]
  rfl
 ·have hq:=List.getElem?_eq_getElem hi
  obtain ⟨q,hqe⟩:∃ q,q=x.kids[i]:=⟨_,rfl⟩
  rw [← hqe] at hq
  have hAi1:A (i+1)=T5 k m.rooms q (A i):=by
   rw [hA]
   simp only [c8o F hq]
   rw [hF]
  have hp:=hAi i
  have hfu:=hp.2.2
  have c3:a5h k (m,q,(A i).1,(A i).2):=⟨⟨hG.rooms,hk,ht,⟨g0,hp.1,.inr (b6i hxm (List.mem_of_getElem? hq))⟩,by dsimp only;omega⟩,hp.2.1⟩
  rw [c1U,hAi1]
  simp (disch:=omega) only [f4,i6,Nat.le_refl,hi,d6 hx,Rm.cs,d6 hq,Hd.cs,o3]
  rw [b4 (e2e c3) (e2f c3)]
  simp only [b3Z,f4,i6,Nat.le_refl]
 ·rw [c1U]
  simp only [f4,d6 hx,Rm.cs,p8,Nat.lt_irrefl,decide_false,cond_false]
theorem e7g:∀ k,d8 prog a1Z (a1Y k)
 | 0=>g8 b7k fun x hx=>by
  obtain ⟨g0,hm,_⟩:=hx.1.walk
  have h1:=hm.len
  have h2:=hx.1.fuel
  omega
 | k+1=>g8 b7k fun x hx =>
  b9 (φ:=(b3 [(a7R,a7S),(Q8,Q7),(X1,X0),(a1Z,a1Y k)])) (a9 e2d (a9 a9W (a9 d4h (a9 (e7g k) b5)))) d9 (kp:=b2E) (n:=(x.1.rooms.getD (rof x.1.rooms x.2.1).toNat zRm).kids.length+1) func146 (c:=d3 b7l) (by kernel_rfl) (e5H k x.1 x.2.1 x.2.2.1 x.2.2.2 hx) (b8 (by kernel_rfl))
theorem e2h (k:Nat) (m:Ml) (h:Hd) (a:List Hd) (h0:a2B (k+1) (m,h,a)):body prog (b3 [(Q6,Q5),(F4,F3),(X3,X2),(K1,K0 k)]) a8V ((m.rooms.getD (rof m.rooms h).toNat zRm).kids.length+1) b2F (a1r (m,h,a))=some ([oT (eI (b0h (k+1) (m,h,a)).1),oT (eL 2 Hd.cs (b0h (k+1) (m,h,a)).2)],[nul,nul,nul]):=by
 have hlm:=lm
 have hG:GatOk (k+1) m h a:=h0
 obtain ⟨g0,hm,hh⟩:=hG.walk
 have hl:m.rooms.length≤LM:=hG.rooms.1
 have ha:=hm.len
 have hk:=hG.kids
 have ht:=hG.tags
 have hf:=hG.fuel
 have hal:a.length≤LM:=by omega
 have c0:Z4 (a,h):=hal
 have c1:u5 (m,h):=hl
 have s0:a.length*16≤70368744177664:=by omega
 have s1:(a.length+1)*16≤70368744177664:=by omega
 have s2:a.length+1≤70368744177664:=by omega
 have s5:a.length≤70368744177664:=by omega
 have r0:T.arr 1 0 (i4 [])=T.arr 1 0 (atL b6 []):=by rw [a2h b6]
 unfold a1r b0h P8
 dsimp only
 rw [e5F]
 simp only [Ml.cs,Hd.cs,l7]
 rw [b4 (a1S c1) (a1T c1)]
 simp only [a3n,f4,i6,Nat.le_refl,G8,s0,s1,s2,s5]
 by_cases h2:rof m.rooms h < 0
 ·simp only [h2,decide_true,cond_true,Bool.true_or,r0]
  rfl
 simp only [h2,decide_false,cond_false,Bool.false_or]
 rw [b4 (d2x c0) (d2y c0)]
 simp only [d6h,a1q]
 by_cases h1:h∈a
 ·simp only [h1,decide_true,cond_true,r0]
  rfl
 have e1:=a4S h2
 obtain ⟨hx,hxm,htl⟩:=b1r h2
 obtain ⟨x,hxe⟩:∃ x,x=m.rooms.getD (rof m.rooms h).toNat zRm:=⟨_,rfl⟩
 rw [← hxe] at hx hxm htl ⊢
 have hy:=hG.rooms.2 _ hxm
 have c2:T4 x.tags:=hy.2.2
 simp only [f4,h1,decide_false,cond_false,e1.1,e1.2,d6 hx,Rm.cs]
 rw [b4 (d2s c2) (d2t c2)]
 simp only [d4g,List.length_reverse,f4,i6,Nat.le_refl]
 have hs:b9R m.rooms g0 (a.length+1) 0 (x.tags.reverse,a ++ [h]):=by
  refine ⟨hm.add hh h1,?_,by simp⟩
  simp only [List.length_reverse,b7n]
  have:a0b (tlK m.rooms) [h]=tlK m.rooms h:=by rw [X4];rfl
  omega
 obtain ⟨F,hF⟩:∃ F:List Int × List Hd→Hd→List Int × List Hd,F=fun b kid=>(b.1 ++ (P8 k m.rooms kid b.2).1,(P8 k m.rooms kid b.2).2):=⟨_,rfl⟩
 obtain ⟨A,hA⟩:∃ A:Nat→List Int × List Hd,A=fun i=>(x.kids.take i).foldl F (x.tags.reverse,a ++ [h]):=⟨_,rfl⟩
 have stepP:∀ (c:List Int × List Hd) (y:Hd),y∈x.kids→b9R m.rooms g0 (a.length+1) 0 c→b9R m.rooms g0 (a.length+1) 0 (F c y):=fun c y hy' hc=>by
  rw [hF]
  have ih:=b9S m.rooms g0 k y c.2 hc.1 (.inr (b6i hxm hy'))
  refine ⟨ih.1,?_,?_⟩
  ·have h4:=ih.2.1
   have h5:=hc.2.1
   simp only [List.length_append]
   omega
  ·have h4:=ih.2.2
   have h5:=hc.2.2
   simp only
   omega
 have hAi:∀ i,b9R m.rooms g0 (a.length+1) 0 (A i):=fun i=>by
  rw [hA]
  exact a5R (b9R m.rooms g0 (a.length+1) 0) F _ _ hs fun c y hy' hc=>stepP c y (List.mem_of_mem_take hy') hc
 have hst:a6Y k m h a (rof m.rooms h) (a.length+1) (n6 a.length (n6 0 (i4 []) (n7 (atL Hd.cs a))) (n7 (l3 0 1 (i4 [[T.int IntKind.i64 h.slot,T.int IntKind.i64 h.gen]])))) x.tags.length (atL b6 x.tags.reverse) 0=(fun i:Nat=>a6Y k m h a (rof m.rooms h) (A i).2.length (atL Hd.cs (A i).2) (A i).1.length (atL b6 (A i).1) (i:Nat)) 0:=by
  rw [d2E,b2g,b0B,U5,hA]
  simp only [List.take_zero,List.foldl_nil,List.length_append,List.length_singleton,List.length_reverse]
  rfl
 rw [hst,v5 x.kids.length (fun i:Nat=>a6Y k m h a (rof m.rooms h) (A i).2.length (atL Hd.cs (A i).2) (A i).1.length (atL b6 (A i).1) (i:Nat)) (b5f k m h a (rof m.rooms h) (A x.kids.length).2.length (atL Hd.cs (A x.kids.length).2) (A x.kids.length).1.length (atL b6 (A x.kids.length).1) x.kids.length) 0 (fun i K hi=>?_) (fun K=>?_) _ (Nat.le_refl _)]
 ·rw [c9g]
  simp only [f4,i6,Nat.le_refl,oT,l7]
  rw [hA]
  simp only [List.take_length,hF]
  rfl
 ·have hq:=List.getElem?_eq_getElem hi
  obtain ⟨q,hqe⟩:∃ q,q=x.kids[i]:=⟨_,rfl⟩
  rw [← hqe] at hq
  have hAi1:A (i+1)=F (A i) q:=by
   rw [hA]
   simp only [c8o F hq]
  have hp:=hAi i
  have hfu:=hp.2.2
  have c3:a2B k (m,q,(A i).2):=⟨hG.rooms,hk,ht,⟨g0,hp.1,.inr (b6i hxm (List.mem_of_getElem? hq))⟩,by dsimp only;omega⟩
  have hp1:=stepP (A i) q (List.mem_of_getElem? hq) hp
  have hp2:=Nat.le_trans hp1.2.1 (b1q m.rooms hp1.1.nd)
  rw [hF] at hp2
  simp only [List.length_append] at hp2
  have hkl:=c2U hxm
  have s6:((A i).1.length+(P8 k m.rooms q (A i).2).1.length)*8≤70368744177664:=by omega
  have s7:(A i).1.length+(P8 k m.rooms q (A i).2).1.length≤70368744177664:=by omega
  rw [b9Q,hAi1,hF]
  simp (disch:=omega) only [f4,i6,Nat.le_refl,hi,e1.1,e1.2,d6 hx,Rm.cs,d6 hq,Hd.cs,o3]
  rw [b4 (d6k c3) (d6l c3)]
  simp only [b0h,f4,i6,Nat.le_refl,s6,s7,d4j,U5,List.length_append]
 ·rw [b9Q]
  simp only [f4,e1.1,e1.2,d6 hx,Rm.cs,p8,Nat.lt_irrefl,decide_false,cond_false]
theorem e2i:∀ k,d8 prog K1 (K0 k)
 | 0=>g8 b5e fun x hx=>by
  obtain ⟨g0,hm,_⟩:=hx.walk
  have h1:=hm.len
  have h2:=hx.fuel
  omega
 | k+1=>g8 b5e fun x hx =>
  b9 (φ:=(b3 [(Q6,Q5),(F4,F3),(X3,X2),(K1,K0 k)])) (a9 a9V (a9 d6i (a9 d4i (a9 (e2i k) b5)))) d9 (kp:=a8V) (n:=(x.1.rooms.getD (rof x.1.rooms x.2.1).toNat zRm).kids.length+1) func124 (c:=d3 b2F) (by kernel_rfl) (e2h k x.1 x.2.1 x.2.2 hx) (b8 (by kernel_rfl))
end Go.Mach.F
namespace Go.Mach.F
open Go Go.Mach Go.Proofs.Tryz Go.IntKind
theorem e5I {α:Type} (row:α→List T) (l:List α) (x:α) {p:Nat} (hp:p≤l.length):n6 (p+1) (n6 p (atL row l) (atL row [x])) (shF p (b4s 0 p (atL row l)))=atL row (l.take p ++ [x] ++ l.drop p):=by
 rw [← b9r hp]
 funext j k
 unfold n6 a7G
 simp only [V6]
 by_cases a:j < p
 ·rw [decide_eq_true (show j < p+1 by omega),cond_true,decide_eq_true a,cond_true,if_pos a]
 ·rw [if_neg a]
  by_cases b:j=p
  ·subst b
   rw [decide_eq_true (show j < j+1 by omega),cond_true,decide_eq_false a,cond_false,if_pos rfl,Nat.sub_self]
  ·rw [decide_eq_false (show ¬ j < p+1 by omega),cond_false,if_neg b,d9a,d4D,if_neg (by omega)]
   congr 1
   omega
theorem e9A {α:Type} (row:α→List T) (l:List α):n6 0 (i4 []) (atL row l)=atL row l:=by
 funext j k
 rfl
theorem f3c (f:Nat→Nat→T):shF 0 f=f:=rfl
theorem f1U (r:Rm):i4 [[T.int i64 r.h.slot,T.int i64 r.h.gen,T.int i64 r.up.slot,T.int i64 r.up.gen,T.arr 2 r.kids.length (atL Hd.cs r.kids),T.int i64 r.ep,T.int i64 r.chunks,T.bool r.cur,T.int i64 r.bump,T.arr 1 r.things.length (atL Sf.cs r.things),T.arr 1 r.tags.length (atL b6 r.tags)]]=atL Rm.cs [r]:=by
 rw [← a9x Rm.cs]
 rfl
theorem e2j (l:List Rm) (r:Rm) (h:Y4 (l,r)):body prog (b3 []) a8Q (l.length+1) b2A (U1 (l,r))=some ([oT (eL 11 Rm.cs (a7Q (l,r)))],[nul,nul]):=by
 have hlm:=lm
 have hl:l.length≤LM:=h
 obtain ⟨p,hp,h1,h2,h3⟩:=d2v l r.h
 unfold U1 a7Q
 dsimp only
 rw [e5w,hp]
 simp (implicitDefEqProofs:=false) only [i6,Nat.le_refl,decide_true,Bool.and_true,gdt]
 have hst:a6P l r 0=(fun i:Nat=>a6P l r (i:Nat)) 0:=rfl
 rw [hst,v5 p (fun i:Nat=>a6P l r (i:Nat)) (a9C l r p) 0 (fun i K hi=>?_) (fun K=>?_) _ (by omega)]
 ·rw [c9a]
  have s1:p*136≤70368744177664:=by omega
  have s2:p≤70368744177664:=by omega
  have s3:(p+1)*136≤70368744177664:=by omega
  have s4:p+1≤70368744177664:=by omega
  have s5:p+1+(l.length - p)=l.length+1:=by omega
  have s6:p+(l.length - p)=l.length:=by omega
  have s7:(l.length+1)*136≤70368744177664:=by omega
  have s8:l.length+1≤70368744177664:=by omega
  have s9:(p:Int)≤(l.length:Int):=by omega
  have s0:0≤(p:Int):=by omega
  have hrow:=f1U r
  simp (implicitDefEqProofs:=false) only [f4,s0,s1,s2,s3,s4,s5,s6,s7,s8,s9,h1,Int.toNat_natCast,Nat.sub_zero,Nat.zero_add,Nat.add_zero,i6,Nat.le_refl,Int.le_refl,f3c,e9A,hrow,e5I Rm.cs l r h1]
  have:(V9 l (p:Int) r).length=l.length+1:=by
   unfold V9
   rw [Int.toNat_natCast]
   simp only [List.length_append,List.length_take,List.length_drop,List.length_singleton]
   omega
  unfold oT
  rw [this]
  rfl
 ·have hi2:i < l.length:=by omega
  have hx:=List.getElem?_eq_getElem hi2
  obtain ⟨x,hxe⟩:∃ x,x=l[i]:=⟨_,rfl⟩
  rw [← hxe] at hx
  have hg:l.getD i zRm=x:=by rw [List.getD_eq_getElem?_getD,hx];rfl
  have hn:=h2 i hi
  rw [hg] at hn
  have hle:x.h.slot≤r.h.slot:=by omega
  have w1:i64.wrap ((i:Int)+1)=((i+1:Nat):Int):=o3 (by omega)
  rw [b9K]
  simp (implicitDefEqProofs:=false) only [f4,hi2,d6 hx,Rm.cs,w1,hle]
 ·rw [b9K]
  by_cases hlt:p < l.length
  ·have hx:=List.getElem?_eq_getElem hlt
   obtain ⟨x,hxe⟩:∃ x,x=l[p]:=⟨_,rfl⟩
   rw [← hxe] at hx
   have hg:l.getD p zRm=x:=by rw [List.getD_eq_getElem?_getD,hx];rfl
   have hn:=h3 hlt
   rw [hg] at hn
   have hle:¬ x.h.slot≤r.h.slot:=by omega
   simp (implicitDefEqProofs:=false) only [f4,hlt,d6 hx,Rm.cs,hle,decide_false,cond_false]
  ·simp (implicitDefEqProofs:=false) only [p8,hlt,decide_false,cond_false]
theorem f1V:d8 prog e1Q e1O:=g8 c1P fun x hx =>
 b9 (φ:=(b3 [])) b5 d9 (kp:=a8Q) (n:=x.1.length+1) func117 (c:=d3 b2A) (by kernel_rfl) (e2j x.1 x.2 hx) (b8 (by kernel_rfl))
theorem e2k (m:Ml) (up h:Hd) (b:Bool) (n:Nat) (h0:a6Q (m,up,h,b)):body prog e5x c6O n d2w (a2x (m,up,h,b))=some ([oR (b6f (m,up,h,b)).1.cs,oT (.int .i64 (b6f (m,up,h,b)).2)],[nul,nul,nul,nul]):=by
 have hlm:=lm
 obtain ⟨h1,h2⟩:ok_RmS m.rooms∧m6 m.log:=h0
 have hl:m.rooms.length≤LM:=h1.1
 have c0:p9 m:=⟨h1,h2⟩
 have c1:Q2 (m,up):=hl
 have c2:B0 m:=hl
 have c3:a0y (m,up):=hl
 unfold a2x b6f a5P b7j
 dsimp only
 rw [e5y]
 try simp (implicitDefEqProofs:=false) only [l7,Ml.cs,Hd.cs,hd0]
 rw [b4 (W7 c0) (W8 c0)]
 simp (implicitDefEqProofs:=false) only [a0Q,f4,i6,Nat.le_refl]
 by_cases eu:up=⟨0,0⟩
 ·have hkr:a4D m.rooms (-1) h=m.rooms:=rfl
  simp (implicitDefEqProofs:=false) only [decide_eq_true eu,Bool.not_true,cond_true,cond_false]
  cases b with
  | false=>rfl
  | true =>
   simp (implicitDefEqProofs:=false) only [Bool.not_true,cond_true,cond_false]
   rw [b4 (a4Z c2) (a5a c2)]
   simp (implicitDefEqProofs:=false) only [a7N]
   by_cases a5:m.c.chunks < i64.wrap (tkn m.rooms+1)
   ·simp (implicitDefEqProofs:=false) only [a5,decide_true,cond_true]
    rfl
   simp (implicitDefEqProofs:=false) only [a5,decide_false,cond_false,G8]
   have c7:Y4 (m.rooms,E3 h up):=hl
   rw [show [C.tr true (T.int i64 h.slot),C.tr true (T.int i64 h.gen),C.tr true (T.int i64 up.slot),C.tr true (T.int i64 up.gen),C.tr true (T.arr 2 0 fun _ _=>T.hole),C.tr true (T.int i64 0),C.tr true (T.int i64 1),C.tr true (T.bool true),C.tr true (T.int i64 0),C.tr true (T.arr 1 0 fun _ _=>T.hole),C.tr true (T.arr 1 0 fun _ _=>T.hole)] =
    [C.tr true (T.int i64 (E3 h up).h.slot),C.tr true (T.int i64 (E3 h up).h.gen),C.tr true (T.int i64 (E3 h up).up.slot),C.tr true (T.int i64 (E3 h up).up.gen),C.tr true (T.arr 2 (E3 h up).kids.length (atL Hd.cs (E3 h up).kids)),C.tr true (T.int i64 (E3 h up).ep),C.tr true (T.int i64 (E3 h up).chunks),C.tr true (T.bool (E3 h up).cur),C.tr true (T.int i64 (E3 h up).bump),C.tr true (T.arr 1 (E3 h up).things.length (atL Sf.cs (E3 h up).things)),C.tr true (T.arr 1 (E3 h up).tags.length (atL b6 (E3 h up).tags))] from rfl]
   rw [b4 (d6b c7) (d6c c7)]
   simp (implicitDefEqProofs:=false) only [e1P,f4,i6,Nat.le_refl,b2y,hkr,show (E3 h up).h=h from rfl]
   rfl
 ·simp (implicitDefEqProofs:=false) only [decide_eq_false eu,Bool.not_false,cond_true,cond_false]
  rw [b4 (b6a c1) (b6b c1)]
  simp (implicitDefEqProofs:=false) only [b9z,w7]
  by_cases e:(rsv m up).2=0
  case neg =>
   simp (implicitDefEqProofs:=false) only [e,decide_false,Bool.not_false,cond_true,cond_false]
   rfl
  have hk:=a3r e
  have hx:=A2 hk.2
  have e0:=hk.1
  have e1:=hk.2
  simp (implicitDefEqProofs:=false) only [e,e0,decide_true,Bool.not_true,cond_true,cond_false]
  rw [b4 (d7W c3) (d7X c3)]
  simp (implicitDefEqProofs:=false) only [e1a,d4 (dpn m.rooms m.rooms.length up)]
  by_cases a4:4≤dpn m.rooms m.rooms.length up
  ·simp (implicitDefEqProofs:=false) only [a4,decide_true,cond_true]
   rfl
  simp (implicitDefEqProofs:=false) only [a4,decide_false,cond_false]
  cases b with
  | false=>rfl
  | true =>
   simp (implicitDefEqProofs:=false) only [Bool.not_true,cond_true,cond_false]
   rw [b4 (a4Z c2) (a5a c2)]
   simp (implicitDefEqProofs:=false) only [a7N]
   by_cases a5:m.c.chunks < i64.wrap (tkn m.rooms+1)
   ·simp (implicitDefEqProofs:=false) only [a5,decide_true,cond_true]
    rfl
   obtain ⟨x,hxe⟩:∃ x,x=m.rooms.getD (rsv m up).1.toNat zRm:=⟨_,rfl⟩
   have hkr:a4D m.rooms (rsv m up).1 h=m.rooms.set (rsv m up).1.toNat { x with kids:=h::x.kids }:=by
    unfold a4D
    rw [decide_eq_true e0,cond_true,← hxe]
   rw [← hxe] at hx
   have hy:=h1.2 _ (List.mem_of_getElem? hx)
   have hy1:x.kids.length≤LM:=hy.1.1
   have s1:(1+x.kids.length)*16≤70368744177664:=by omega
   have s2:1+x.kids.length≤70368744177664:=by omega
   have h9:b7 (rsv m up).1.toNat 4 (T.arr 2 (1+x.kids.length) (n6 1 (atL Hd.cs [h]) (atL Hd.cs x.kids))) (atL Rm.cs m.rooms)=atL Rm.cs (m.rooms.set (rsv m up).1.toNat { x with kids:=h::x.kids }):=by
    rw [show (1:Nat)=[h].length from rfl,U5]
    exact w6 hx (by simp only [Rm.cs,l7,List.length_append,List.length_cons,List.length_nil,List.singleton_append,Nat.add_comm];rfl) (by decide:4 < 11)
   simp (implicitDefEqProofs:=false) only [f4,a5,decide_false,cond_false,e0,e1,Nat.add_zero,d6 hx,Rm.cs,T.get,i6,Nat.le_refl,Nat.beq_refl,d6a,G8,b2g,s1,s2,h9]
   have hsl:m.rooms.length=(m.rooms.set (rsv m up).1.toNat { x with kids:=h::x.kids }).length:=List.length_set.symm
   have hl2:(m.rooms.set (rsv m up).1.toNat { x with kids:=h::x.kids }).length≤LM:=by rw [← hsl];exact hl
   obtain ⟨l',hl'⟩:∃ l',l'=m.rooms.set (rsv m up).1.toNat { x with kids:=h::x.kids }:=⟨_,rfl⟩
   rw [← hl'] at hkr hsl hl2 ⊢
   rw [hsl]
   have c7:Y4 (l',E3 h up):=hl2
   rw [show [C.tr true (T.int i64 h.slot),C.tr true (T.int i64 h.gen),C.tr true (T.int i64 up.slot),C.tr true (T.int i64 up.gen),C.tr true (T.arr 2 0 fun _ _=>T.hole),C.tr true (T.int i64 0),C.tr true (T.int i64 1),C.tr true (T.bool true),C.tr true (T.int i64 0),C.tr true (T.arr 1 0 fun _ _=>T.hole),C.tr true (T.arr 1 0 fun _ _=>T.hole)] =
    [C.tr true (T.int i64 (E3 h up).h.slot),C.tr true (T.int i64 (E3 h up).h.gen),C.tr true (T.int i64 (E3 h up).up.slot),C.tr true (T.int i64 (E3 h up).up.gen),C.tr true (T.arr 2 (E3 h up).kids.length (atL Hd.cs (E3 h up).kids)),C.tr true (T.int i64 (E3 h up).ep),C.tr true (T.int i64 (E3 h up).chunks),C.tr true (T.bool (E3 h up).cur),C.tr true (T.int i64 (E3 h up).bump),C.tr true (T.arr 1 (E3 h up).things.length (atL Sf.cs (E3 h up).things)),C.tr true (T.arr 1 (E3 h up).tags.length (atL b6 (E3 h up).tags))] from rfl]
   rw [b4 (d6b c7) (d6c c7)]
   simp (implicitDefEqProofs:=false) only [e1P,f4,i6,Nat.le_refl,b2y,hkr,show (E3 h up).h=h from rfl]
   rfl
theorem f1W:d8 prog e1S e1R:=g8 c1Q fun x hx =>
 b9 (φ:=e5x) (a9 a5K (a9 b9B (a9 e1b (a9 b7e (a9 f1V b5))))) d9 (kp:=c6O) (n:=0) func71 (c:=d3 d2w) (by kernel_rfl) (e2k x.1 x.2.1 x.2.2.1 x.2.2.2 (0) hx) (b8 (by kernel_rfl))
end Go.Mach.F
namespace Go.Mach.F
open Go Go.Mach Go.Proofs.Tryz Go.IntKind
--=set_option maxRecDepth 100000
def pR (cs:List T):Arg:=(2,(true,cs.map fun t=>.tr true t))
def rmJ (m:Ml) (j:Int):Rm:=m.rooms.getD j.toNat zRm
def a9D (m:Ml) (x:Rm) (sz al:Int):Bool:=!x.cur || decide (m.c.size < i64.wrap (aup x.bump al+sz))
def a8W (m:Ml) (j:Int) (y:Rm):Ml:=⟨m.c,m.rooms.set j.toNat y,m.log⟩
def a7T (x:Rm) (n:Bool) (sz al:Int):Rm:=bif n then { x with chunks:=i64.wrap (x.chunks+1),cur:=true,bump:=i64.wrap (aup 0 al+sz) } else { x with bump:=i64.wrap (aup x.bump al+sz) }
def d2F (m:Ml) (j sz al:Int):Ml × Int:=bif a9D m (rmJ m j) sz al&&decide (m.c.chunks < i64.wrap (tkn m.rooms+1)) then (m,5) else (a8W m j (a7T (rmJ m j) (a9D m (rmJ m j) sz al) sz al),0)
theorem f1X {cs cs':List T} (h:pR cs=pR cs'):cs=cs':=by
 have e:=congrArg (fun a:Arg=>a.2.2) h
 exact (List.map_inj_right (fun x y h=>by cases h;rfl)).1 e
def a4u (x:Ml × Int × Int × Int):Prop:=x.1.rooms.length≤LM∧0≤x.2.1∧x.2.1.toNat < x.1.rooms.length
def a1s (x:Ml × Int × Int × Int):List Arg:=[pR x.1.cs,aI x.2.1,aI x.2.2.1,aI x.2.2.2]
def b2H (x:Ml × Int × Int × Int):Ml × Int:=d2F x.1 x.2.1 x.2.2.1 x.2.2.2
noncomputable def e2l:Ent:=ent [2,0,0,0] a4u a1s (fun (x:Ml × Int)=>([oT (.int .i64 x.2)],[oR x.1.cs,nul,nul,nul])) b2H
theorem c1V (x y:Ml × Int × Int × Int) (h:a1s x=a1s y):x=y:=by
 obtain ⟨m1,j1,sz1,al1⟩:=x
 obtain ⟨m2,j2,sz2,al2⟩:=y
 simp only [a1s,List.cons.injEq,and_true,true_and] at h
 obtain ⟨e0,e1,e2,e3⟩:=h
 obtain rfl:=Ml.cs_ext (f1X e0)
 obtain rfl:=v9 e1
 obtain rfl:=v9 e2
 obtain rfl:=v9 e3
 rfl
theorem e9B {m:Ml} {j:Int} {sz:Int} {al:Int} (h:a4u (m,j,sz,al)):dom a4u a1s [(2,true,[C.tr true (T.int i64 m.c.chunks),C.tr true (T.int i64 m.c.size),C.tr true (T.int i64 m.c.slots),C.tr true (T.int i64 m.c.tax),C.tr true (T.int i64 m.c.slice),C.tr true (T.int i64 m.c.gens),C.tr true (T.arr 11 m.rooms.length (atL Rm.cs m.rooms)),C.tr true (T.arr 1 m.log.length (atL b6 m.log))]),(0,false,[C.tr false (T.int i64 j)]),(0,false,[C.tr false (T.int i64 sz)]),(0,false,[C.tr false (T.int i64 al)])]=true:=i3 (ea:=a1s) (x:=(m,j,sz,al)) h
theorem e9C {m:Ml} {j:Int} {sz:Int} {al:Int} (h:a4u (m,j,sz,al)):inv a4u a1s [(2,true,[C.tr true (T.int i64 m.c.chunks),C.tr true (T.int i64 m.c.size),C.tr true (T.int i64 m.c.slots),C.tr true (T.int i64 m.c.tax),C.tr true (T.int i64 m.c.slice),C.tr true (T.int i64 m.c.gens),C.tr true (T.arr 11 m.rooms.length (atL Rm.cs m.rooms)),C.tr true (T.arr 1 m.log.length (atL b6 m.log))]),(0,false,[C.tr false (T.int i64 j)]),(0,false,[C.tr false (T.int i64 sz)]),(0,false,[C.tr false (T.int i64 al)])]=(m,j,sz,al):=g9 c1V (x:=(m,j,sz,al)) h
theorem f1Y (m:Ml) (j:Int) (sz:Int) (al:Int):b2H (m,j,sz,al)=d2F m j sz al:=rfl
def e2m:Nat:=174
noncomputable abbrev d2G:Func:=f174
def c6Y:List (Nat × List Nat):=[(0,[0,4,8,12,36,40,44,48,52,56,60,88,92,96,100,104,108,112,116,120,124,128,132,136,140,293]),(1,[0,8,12,36,40,44,48,52,56,60,88,92,96,100,104,108,112,116,120,124,128,132,136,140,293]),(2,[0,8,12,36,40,44,48,52,56,60,144,293]),(3,[0,8,12,36,40,44,48,52,56,60,188,293]),(4,[32,293]),(5,[0,8,12,36,40,44,48,52,56,60,293]),(6,[0,8,12,36,40,44,48,52,56,60,293]),(7,[0,8,12,36,40,44,48,52,56,60,293]),(8,[293]),(9,[32,293])]
noncomputable abbrev e5J:Sems:=b3 [(b1b,b1a),(c4P,c4O)]
theorem e5K (m:Ml) (j:Int) (sz:Int) (al:Int) (n:Nat):body prog e5J c6Y n d2G [pR m.cs,aI j,aI sz,aI al]=(let q0:=atL Rm.cs m.2 (0+j.toNat) 6;let q1:=atL Rm.cs m.2 (0+j.toNat) (8+0);let q2:=T.arr 11 m.2.length (l3 0 m.2.length (eL 11 Rm.cs m.2).fn);let q3:=b7 (0+j.toNat) 6 (T.int i64 (i64.wrap (q0.toI+1))) (atL Rm.cs m.2);let q4:=b7 (0+j.toNat) 7 (T.bool true) q3;let q5:=b7 (0+j.toNat) 8 (T.int i64 0) q4 (0+j.toNat) (8+0);gd (decide (0≤j)&&(j.toNat.blt m.2.length&&true))<|gd ((0+j.toNat).blt m.2.length&&true&&(atL Rm.cs m.2 (0+j.toNat) (7+0)).isB)<|bif !(atL Rm.cs m.2 (0+j.toNat) (7+0)).toB then gd ((0+m.2.length).ble m.2.length)<|gd ((0+m.3.length).ble m.3.length)<|d7 B0 B1 (P7) [(0,true,[C.tr false (T.int i64 m.c.1),C.tr false (T.int i64 m.c.2),C.tr false (T.int i64 m.c.3),C.tr false (T.int i64 m.c.4),C.tr false (T.int i64 m.c.5),C.tr false (T.int i64 m.c.6),C.tr false q2,C.tr false (T.arr 1 m.3.length (l3 0 m.3.length (eL 1 b6 m.3).fn))])] fun (r2:Int)=>bif decide (m.c.1 < i64.wrap (r2+1)) then some ([(false,[.tr true (T.int i64 5)])],[(true,[.tr true (T.int i64 m.c.1),.tr true (T.int i64 m.c.2),.tr true (T.int i64 m.c.3),.tr true (T.int i64 m.c.4),.tr true (T.int i64 m.c.5),.tr true (T.int i64 m.c.6),.tr true (eL 11 Rm.cs m.2),.tr true (eL 1 b6 m.3)]),(false,[]),(false,[]),(false,[])]) else gd ((0+j.toNat).blt m.2.length&&true&&T.isI i64 (atL Rm.cs m.2 (0+j.toNat) (6+0)))<|gd ((0+j.toNat).blt m.2.length&&true&&true)<|gd ((0+j.toNat).blt m.2.length&&true&&true)<|gd ((0+j.toNat).blt m.2.length&&true&&true)<|gd ((0+j.toNat).blt m.2.length&&true&&T.isI i64 q5)<|d7 D4 F2 (a0G) [(0,false,[C.tr false (T.int i64 q5.toI)]),(0,false,[C.tr false (T.int i64 al)])] fun (r3:Int)=>gd ((0+j.toNat).blt m.2.length&&true&&true)<|some ([(false,[.tr true (T.int i64 0)])],[(true,[.tr true (T.int i64 m.c.1),.tr true (T.int i64 m.c.2),.tr true (T.int i64 m.c.3),.tr true (T.int i64 m.c.4),.tr true (T.int i64 m.c.5),.tr true (T.int i64 m.c.6),.tr true (.arr (11) (m.2.length) (b7 (0+j.toNat) 8 (T.int i64 (i64.wrap (r3+sz))) (b7 (0+j.toNat) 8 (T.int i64 0) q4))),.tr true (eL 1 b6 m.3)]),(false,[]),(false,[]),(false,[])]) else gd ((0+j.toNat).blt m.2.length&&true&&T.isI i64 q1)<|d7 D4 F2 (a0G) [(0,false,[C.tr false (T.int i64 q1.toI)]),(0,false,[C.tr false (T.int i64 al)])] fun (r1:Int)=>bif decide (m.c.2 < i64.wrap (r1+sz)) then gd ((0+m.2.length).ble m.2.length)<|gd ((0+m.3.length).ble m.3.length)<|d7 B0 B1 (P7) [(0,true,[C.tr false (T.int i64 m.c.1),C.tr false (T.int i64 m.c.2),C.tr false (T.int i64 m.c.3),C.tr false (T.int i64 m.c.4),C.tr false (T.int i64 m.c.5),C.tr false (T.int i64 m.c.6),C.tr false q2,C.tr false (T.arr 1 m.3.length (l3 0 m.3.length (eL 1 b6 m.3).fn))])] fun (r4:Int)=>bif decide (m.c.1 < i64.wrap (r4+1)) then some ([(false,[.tr true (T.int i64 5)])],[(true,[.tr true (T.int i64 m.c.1),.tr true (T.int i64 m.c.2),.tr true (T.int i64 m.c.3),.tr true (T.int i64 m.c.4),.tr true (T.int i64 m.c.5),.tr true (T.int i64 m.c.6),.tr true (eL 11 Rm.cs m.2),.tr true (eL 1 b6 m.3)]),(false,[]),(false,[]),(false,[])]) else gd ((0+j.toNat).blt m.2.length&&true&&T.isI i64 (atL Rm.cs m.2 (0+j.toNat) (6+0)))<|gd ((0+j.toNat).blt m.2.length&&true&&true)<|gd ((0+j.toNat).blt m.2.length&&true&&true)<|gd ((0+j.toNat).blt m.2.length&&true&&true)<|gd ((0+j.toNat).blt m.2.length&&true&&T.isI i64 q5)<|d7 D4 F2 (a0G) [(0,false,[C.tr false (T.int i64 q5.toI)]),(0,false,[C.tr false (T.int i64 al)])] fun (r5:Int)=>gd ((0+j.toNat).blt m.2.length&&true&&true)<|some ([(false,[.tr true (T.int i64 0)])],[(true,[.tr true (T.int i64 m.c.1),.tr true (T.int i64 m.c.2),.tr true (T.int i64 m.c.3),.tr true (T.int i64 m.c.4),.tr true (T.int i64 m.c.5),.tr true (T.int i64 m.c.6),.tr true (.arr (11) (m.2.length) (b7 (0+j.toNat) 8 (T.int i64 (i64.wrap (r5+sz))) (b7 (0+j.toNat) 8 (T.int i64 0) q4))),.tr true (eL 1 b6 m.3)]),(false,[]),(false,[]),(false,[])]) else gd ((0+j.toNat).blt m.2.length&&true&&T.isI i64 q1)<|d7 D4 F2 (a0G) [(0,false,[C.tr false (T.int i64 q1.toI)]),(0,false,[C.tr false (T.int i64 al)])] fun (r6:Int)=>gd ((0+j.toNat).blt m.2.length&&true&&true)<|some ([(false,[.tr true (T.int i64 0)])],[(true,[.tr true (T.int i64 m.c.1),.tr true (T.int i64 m.c.2),.tr true (T.int i64 m.c.3),.tr true (T.int i64 m.c.4),.tr true (T.int i64 m.c.5),.tr true (T.int i64 m.c.6),.tr true (.arr (11) (m.2.length) (b7 (0+j.toNat) 8 (T.int i64 (i64.wrap (r6+sz))) (atL Rm.cs m.2))),.tr true (eL 1 b6 m.3)]),(false,[]),(false,[]),(false,[])])):=by kernel_rfl
end Go.Mach.F
namespace Go.Mach.F
open Go Go.Mach Go.Proofs.Tryz Go.IntKind
theorem R6 {α:Type} {l:List α} {j:Nat} {x y:α} (h:l[j]?=some x):(l.set j y)[j]?=some y:=by
 rw [List.getElem?_set_self (List.getElem?_eq_some_iff.1 h).1]
theorem e2n (m:Ml) (j sz al:Int) (n:Nat) (h:a4u (m,j,sz,al)):body prog e5J c6Y n d2G (a1s (m,j,sz,al))=some ([oT (.int .i64 (b2H (m,j,sz,al)).2)],[oR (b2H (m,j,sz,al)).1.cs,nul,nul,nul]):=by
 obtain ⟨hl,e0,e1⟩:m.rooms.length≤LM∧0≤j∧j.toNat < m.rooms.length:=h
 have c0:B0 m:=hl
 have hx:=A2 e1
 unfold a1s b2H d2F a9D rmJ
 dsimp only
 rw [e5K]
 obtain ⟨x,hxe⟩:∃ x,x=m.rooms.getD j.toNat zRm:=⟨_,rfl⟩
 rw [← hxe] at hx ⊢
 have c1:D4 (x.bump,al):=trivial
 have c2:D4 (0,al):=trivial
 simp only [f4,e0,e1,Nat.add_zero,d6 hx,Rm.cs,i6,Nat.le_refl,G8]
 have fin:∀ (y:Rm),Rm.cs y=(Rm.cs x).set 8 (.int .i64 y.bump)→b7 j.toNat 8 (.int .i64 y.bump) (atL Rm.cs m.rooms)=atL Rm.cs (m.rooms.set j.toNat y):=fun y hy=>w6 hx hy (by decide:8 < 11)
 have fin2:∀ (b:Int),b7 j.toNat 8 (.int .i64 b) (b7 j.toNat 8 (.int .i64 0) (b7 j.toNat 7 (.bool true) (b7 j.toNat 6 (.int .i64 (i64.wrap (x.chunks+1))) (atL Rm.cs m.rooms))))=atL Rm.cs (m.rooms.set j.toNat { x with chunks:=i64.wrap (x.chunks+1),cur:=true,bump:=b }):=fun b=>by
  rw [a3w,w6 (y:={ x with chunks:=i64.wrap (x.chunks+1) }) hx rfl (by decide:6 < 11),w6 (y:={ x with chunks:=i64.wrap (x.chunks+1),cur:=true }) (R6 hx) rfl (by decide:7 < 11),List.set_set,
   w6 (y:={ x with chunks:=i64.wrap (x.chunks+1),cur:=true,bump:=b }) (R6 hx) rfl (by decide:8 < 11),List.set_set]
 cases hc:x.cur with
 | false =>
  simp only [Bool.not_false,cond_true,Bool.true_or,Bool.true_and]
  rw [b4 (a4Z c0) (a5a c0)]
  simp only [a7N]
  by_cases h1:m.c.chunks < i64.wrap (tkn m.rooms+1)
  ·simp only [h1,decide_true,cond_true]
   rfl
  ·simp only [h1,decide_false,cond_false,a8h,b1i,b1j,gdt]
   rw [b4 (a9A c2) (a9B c2)]
   simp only [b1c,fin2,oR,Ml.cs,a8W,a7T,cond_true,l7,List.length_set]
   rfl
 | true =>
  simp only [Bool.not_true,cond_false,Bool.false_or]
  rw [b4 (a9A c1) (a9B c1)]
  simp only [b1c]
  by_cases h2:m.c.size < i64.wrap (aup x.bump al+sz)
  ·simp only [h2,decide_true,cond_true,Bool.true_and]
   rw [b4 (a4Z c0) (a5a c0)]
   simp only [a7N]
   by_cases h1:m.c.chunks < i64.wrap (tkn m.rooms+1)
   ·simp only [h1,decide_true,cond_true]
    rfl
   ·simp only [h1,decide_false,cond_false,a8h,b1i,b1j,gdt]
    rw [b4 (a9A c2) (a9B c2)]
    simp only [b1c,fin2,oR,Ml.cs,a8W,a7T,cond_true,l7,List.length_set]
    rfl
  ·simp only [h2,decide_false,cond_false,Bool.false_and]
   rw [b4 (a9A c1) (a9B c1)]
   simp only [b1c]
   have:=fin { x with bump:=i64.wrap (aup x.bump al+sz) } rfl
   simp only [hc] at this
   simp only [this,hc,oR,Ml.cs,a8W,a7T,cond_false,l7,List.length_set]
   rfl
theorem f1Z:d8 prog e2m e2l:=g8 c1V fun x hx =>
 b9 (φ:=e5J) (a9 b7e (a9 d8t b5)) d9 (kp:=c6Y) (n:=0) func174 (c:=d3 d2G) (by kernel_rfl) (e2n x.1 x.2.1 x.2.2.1 x.2.2.2 (0) hx) (b8 (by kernel_rfl))
end Go.Mach.F
namespace Go.Mach.F
open Go Go.Mach Go.Proofs.Tryz Go.IntKind
--=set_option maxRecDepth 100000
def a5S (sz al:Int):Bool:=inR sz 1 200&&b2r al
def a3C (x:Int × Int):Prop:=True
def a0U (x:Int × Int):List Arg:=[aI x.1,aI x.2]
def b6j (x:Int × Int):Bool:=a5S x.1 x.2
noncomputable def d6o:Ent:=ent [] a3C a0U (erB 2) b6j
theorem b9T (x y:Int × Int) (h:a0U x=a0U y):x=y:=by
 obtain ⟨sz1,al1⟩:=x
 obtain ⟨sz2,al2⟩:=y
 simp only [a0U,List.cons.injEq,and_true,true_and] at h
 obtain ⟨e0,e1⟩:=h
 obtain rfl:=v9 e0
 obtain rfl:=v9 e1
 rfl
theorem e5L {sz:Int} {al:Int} (h:a3C (sz,al)):dom a3C a0U [(0,false,[C.tr false (T.int i64 sz)]),(0,false,[C.tr false (T.int i64 al)])]=true:=i3 (ea:=a0U) (x:=(sz,al)) h
theorem e5M {sz:Int} {al:Int} (h:a3C (sz,al)):inv a3C a0U [(0,false,[C.tr false (T.int i64 sz)]),(0,false,[C.tr false (T.int i64 al)])]=(sz,al):=g9 b9T (x:=(sz,al)) h
theorem e9D (sz:Int) (al:Int):b6j (sz,al)=a5S sz al:=rfl
def d6p:Nat:=137
noncomputable abbrev c6Z:Func:=f137
def c2V:List (Nat × List Nat):=[(0,[0,4,32,36]),(1,[16])]
theorem e2o (sz:Int) (al:Int) (n:Nat):body prog c6I c2V n c6Z [aI sz,aI al]=(bif decide (1≤sz) then bif decide (sz≤200) then bif al==1 then some ([(false,[.tr true (T.bool true)])],(nu 2)) else bif al==2 then some ([(false,[.tr true (T.bool true)])],(nu 2)) else some ([(false,[.tr true (T.bool (al==4))])],(nu 2)) else some ([(false,[.tr true (T.bool false)])],(nu 2)) else some ([(false,[.tr true (T.bool false)])],(nu 2))):=by kernel_rfl
def a6Z (x:Int):Prop:=True
def a2C (x:Int):List Arg:=[aI x]
def b9U (x:Int):Bool:=b2r x
noncomputable def e2p:Ent:=ent [] a6Z a2C (erB 1) b9U
theorem c1W (x y:Int) (h:a2C x=a2C y):x=y:=by
 simp only [a2C,List.cons.injEq,and_true,true_and] at h
 exact v9 h
theorem e9E {y:Int} (h:a6Z y):dom a6Z a2C [(0,false,[C.tr false (T.int i64 y)])]=true:=i3 (ea:=a2C) (x:=y) h
theorem e9F {y:Int} (h:a6Z y):inv a6Z a2C [(0,false,[C.tr false (T.int i64 y)])]=y:=g9 c1W (x:=y) h
theorem f2a (y:Int):b9U y=b2r y:=rfl
def e2q:Nat:=172
noncomputable abbrev d2H:Func:=f172
def c7a:List (Nat × List Nat):=[(0,[0,24,28,40,44]),(1,[8])]
theorem e5N (y:Int) (n:Nat):body prog (b3 []) c7a n d2H [aI y]=(bif y==1 then some ([(false,[.tr true (T.bool true)])],[(false,[])]) else bif y==2 then some ([(false,[.tr true (T.bool true)])],[(false,[])]) else some ([(false,[.tr true (T.bool (y==4))])],[(false,[])])):=by kernel_rfl
end Go.Mach.F
namespace Go.Mach.F
open Go Go.Mach Go.Proofs.Tryz
theorem d8w (sz al:Int) (n:Nat) (h:a3C (sz,al)):body prog c6I c2V n c6Z (a0U (sz,al))=some (erB 2 (b6j (sz,al))):=by
 unfold a0U b6j a5S inR b2r
 dsimp only
 rw [e2o]
 simp only [A1]
 by_cases h1:1≤sz <;> by_cases h2:sz≤200 <;> by_cases h3:al=1 <;> by_cases h4:al=2 <;> by_cases h5:al=4 <;> simp only [h1,h2,h3,h4,h5,decide_true,decide_false,cond_true,cond_false,Bool.and_false,Bool.false_and,Bool.and_self,Bool.or_self,Bool.true_or,Bool.or_true,Bool.true_and] <;> rfl
theorem e9G:d8 prog d6p d6o:=g8 b9T fun x hx =>
 b9 (φ:=c6I) (a9 b2m (a9 d5S b5)) d9 (kp:=c2V) (n:=0) func137 (c:=d3 c6Z) (by kernel_rfl) (d8w x.1 x.2 (0) hx) (b8 (by kernel_rfl))
theorem e2r (y:Int) (n:Nat) (h:a6Z y):body prog (b3 []) c7a n d2H (a2C y)=some (erB 1 (b9U y)):=by
 unfold a2C b9U b2r
 rw [e5N]
 simp only [A1]
 by_cases h3:y=1 <;> by_cases h4:y=2 <;> by_cases h5:y=4 <;> simp only [h3,h4,h5,decide_true,decide_false,cond_true,cond_false,Bool.or_self,Bool.true_or,Bool.or_true] <;> rfl
theorem f2b:d8 prog e2q e2p:=g8 c1W fun x hx =>
 b9 (φ:=(b3 [])) b5 d9 (kp:=c7a) (n:=0) func172 (c:=d3 d2H) (by kernel_rfl) (e2r x (0) hx) (b8 (by kernel_rfl))
end Go.Mach.F
namespace Go.Mach.F
open Go Go.Mach Go.Proofs.Tryz Go.IntKind
--=set_option maxRecDepth 100000
def a7U (x:Rm) (sz:Int):Rm:={ x with things:=x.things ++ [⟨List.replicate sz.toNat 0⟩] }
def a5T (x:Rm) (k:Int):Rm:={ x with chunks:=i64.wrap (x.chunks+k) }
def d2I (m:Ml) (j sz al:Int) (fr:Bool):Ml × Int :=
 bif decide (12≤((rmJ m j).things.length:Int)) then (m,8) else
 bif decide (m.c.size < sz) then (bif decide (m.c.chunks < i64.wrap (tkn m.rooms+cdv sz m.c.size)) then (m,5) else bif fr then (m,6) else (a8W m j (a7U (a5T (rmJ m j) (cdv sz m.c.size)) sz),0))
 else bif a9D m (rmJ m j) sz al&&decide (m.c.chunks < i64.wrap (tkn m.rooms+1)) then (m,5) else (a8W m j (a7U (a7T (rmJ m j) (a9D m (rmJ m j) sz al) sz al) sz),0)
def a0c (m:Ml) (h:Hd) (sz al:Int) (fr:Bool):Ml × Int :=
 bif a5S sz al then (bif decide ((rsv m h).2=0) then d2I m (rsv m h).1 sz al fr else (m,(rsv m h).2)) else (m,1)
def e2s:Nat:=138
noncomputable abbrev e2t:Func:=f138
def e9H:List (Nat × List Nat):=[(0,[4,8,9]),(1,[16])]
noncomputable def e2u:Ent:=inl [] prog (b3 []) e9H 0 e2t
theorem f2c:d8 prog e2s e2u:=p6 b5 d9 (c:=d3 e2t) func138 (by kernel_rfl) (b8 (by kernel_rfl))
def e2v:Nat:=173
noncomputable abbrev e2w:Func:=f173
def e9I:List (Nat × List Nat):=[(0,[4,8,9]),(1,[16])]
noncomputable def e2x:Ent:=inl [] prog (b3 []) e9I 0 e2w
theorem f2d:d8 prog e2v e2x:=p6 b5 d9 (c:=d3 e2w) func173 (by kernel_rfl) (b8 (by kernel_rfl))
def e7h:Nat:=139
noncomputable abbrev e7i:Func:=f139
def f2e:List (Nat × List Nat):=[(0,[4,8,9]),(1,[16])]
noncomputable def e7j:Ent:=inl [] prog (b3 [(c4N,c4M)]) f2e 0 e7i
theorem f2U:d8 prog e7h e7j:=p6 (a9 d8s b5) d9 (c:=d3 e7i) func139 (by kernel_rfl) (b8 (by kernel_rfl))
def e7k:Nat:=175
noncomputable abbrev e7l:Func:=f175
def f2f:List (Nat × List Nat):=[(0,[4,8,9]),(1,[16])]
noncomputable def e7m:Ent:=inl [] prog (b3 [(c4R,c4Q)]) f2f 0 e7l
theorem f2V:d8 prog e7k e7m:=p6 (a9 d8u b5) d9 (c:=d3 e7l) func175 (by kernel_rfl) (b8 (by kernel_rfl))
def d2J:Nat:=132
noncomputable abbrev d2K:Func:=f132
def e2y:List (Nat × List Nat):=[(0,[4,8,9]),(1,[16])]
noncomputable def d2L:Ent:=inl [] prog (b3 [(b6Z,b6Y)]) e2y 0 d2K
theorem e5O:d8 prog d2J d2L:=p6 (a9 c4S b5) d9 (c:=d3 d2K) func132 (by kernel_rfl) (b8 (by kernel_rfl))
def L9 (x:Ml × Hd × Int × Int × Bool):Prop:=ok_RmS x.1.rooms∧m6 x.1.log
def F5 (x:Ml × Hd × Int × Int × Bool):List Arg:=[aR x.1.cs,aR x.2.1.cs,aI x.2.2.1,aI x.2.2.2.1,aB x.2.2.2.2]
def a0k (x:Ml × Hd × Int × Int × Bool):Ml × Int:=a0c x.1 x.2.1 x.2.2.1 x.2.2.2.1 x.2.2.2.2
noncomputable def b7U:Ent:=ent [] L9 F5 (fun (x:Ml × Int)=>([oR x.1.cs,oT (.int .i64 x.2)],[nul,nul,nul,nul,nul])) a0k
theorem b0i (x y:Ml × Hd × Int × Int × Bool) (h:F5 x=F5 y):x=y:=by
 obtain ⟨m1,h1,sz1,al1,fr1⟩:=x
 obtain ⟨m2,h2,sz2,al2,fr2⟩:=y
 simp only [F5,List.cons.injEq,and_true,true_and] at h
 obtain ⟨e0,e1,e2,e3,e4⟩:=h
 obtain rfl:=Ml.cs_ext (j6 e0)
 obtain rfl:=Hd.cs_ext (j6 e1)
 obtain rfl:=v9 e2
 obtain rfl:=v9 e3
 obtain rfl:=b5J e4
 rfl
theorem c7b {m:Ml} {h:Hd} {sz:Int} {al:Int} {fr:Bool} (h0:L9 (m,h,sz,al,fr)):dom L9 F5 [(wMl m),(wHd h),(0,false,[C.tr false (T.int i64 sz)]),(0,false,[C.tr false (T.int i64 al)]),(0,false,[C.tr false (T.bool fr)])]=true:=i3 (ea:=F5) (x:=(m,h,sz,al,fr)) h0
theorem c7c {m:Ml} {h:Hd} {sz:Int} {al:Int} {fr:Bool} (h0:L9 (m,h,sz,al,fr)):inv L9 F5 [(wMl m),(wHd h),(0,false,[C.tr false (T.int i64 sz)]),(0,false,[C.tr false (T.int i64 al)]),(0,false,[C.tr false (T.bool fr)])]=(m,h,sz,al,fr):=g9 b0i (x:=(m,h,sz,al,fr)) h0
theorem c9h (m:Ml) (h:Hd) (sz:Int) (al:Int) (fr:Bool):a0k (m,h,sz,al,fr)=a0c m h sz al fr:=rfl
def b7V:Nat:=85
noncomputable abbrev b0E:Func:=f85
def a8X:List (Nat × List Nat):=[(0,kq [4,6,8,11,13,21,25,30,36,46,66,88,90,92,94,96,122,128,158,160,162,164,166,168,170,172,174,176,178,180,188,264]),(1,kq [4,6,8,11,13,21,25,30,36,46,66,88,90,92,94,96,122,128,158,160,162,164,166,168,170,172,174,176,178,180,188,264]),(2,kq [4,6,8,11,13,21,25,30,36,44,46,66,88,90,92,94,96,122,128,158,160,162,164,166,168,170,172,174,176,178,180,188,264]),(3,kq [21,22,25,36,46,66,88,122,128,188,264]),(4,kq [4,6,8,11,21,25,26,28,30,36,46,66,88,90,92,94,96,122,128,158,160,162,164,166,168,170,172,174,176,178,180,188,264]),(5,kq [4,6,8,11,21,25,26,28,30,36,46,60,66,88,90,92,94,96,122,128,158,160,162,164,166,168,170,172,174,176,178,180,188,264]),(6,kq [21,22,25,36,46,66,88,122,128,188,264]),(7,kq [4,6,8,11,21,25,26,30,36,46,66,70,88,90,92,94,96,122,128,158,160,162,164,166,168,170,172,174,176,178,180,188,264]),(8,kq [21,22,25,36,46,66,88,122,128,188,264]),(9,kq [4,6,8,11,21,25,30,36,46,66,88,90,92,94,96,122,128,158,160,162,164,166,168,170,172,174,176,178,180,188,264]),(10,kq [4,6,8,11,21,25,30,36,46,66,88,90,92,94,96,104,122,128,158,160,162,164,166,168,170,172,174,176,178,180,188,264]),(11,kq [4,8,11,21,25,30,32,36,46,66,88,90,92,94,96,122,128,188,264]),(12,kq [4,8,21,25,30,32,36,46,66,88,90,92,94,96,114,122,128,188,264]),(13,kq [21,22,25,36,46,66,88,122,128,188,264]),(14,kq [4,21,25,30,32,36,46,66,88,90,92,94,96,122,124,128,188,264]),(15,kq [21,22,25,36,46,66,88,122,128,188,264]),(16,kq [4,21,25,30,36,46,66,88,90,92,94,96,122,128,188,264]),(17,kq [4,6,11,21,25,30,36,46,66,88,90,92,94,96,122,128,182,188,264]),(18,kq [4,6,21,25,30,36,46,66,88,90,92,94,96,122,128,186,188,264]),(19,kq [21,22,25,36,46,66,88,122,128,188,264]),(20,kq [4,6,21,25,30,36,46,66,88,90,92,94,96,122,128,188,264]),(21,kq [4,21,25,30,36,46,66,88,90,92,94,96,122,128,188,264]),(22,kq [21,25,36,46,66,88,122,128,188,264]),(23,kq [21,22,25,36,46,66,88,122,128,188,264])]
noncomputable abbrev e5P:Sems:=b3 [(P6,P5),(d6p,d6o),(a0E,a0D),(e2s,e2u),(e7h,e7j),(d2J,d2L),(c4L,c4K)]
theorem c4Y (m:Ml) (h:Hd) (sz:Int) (al:Int) (fr:Bool) (n:Nat):body prog e5P a8X n b0E [aR m.cs,aR h.cs,aI sz,aI al,aB fr]=(d7 A9 F9 (Z2) [(wMl m)] fun (r1:Ml)=>gl r1.2.length<|gl r1.3.length<|d7 a3C a0U (b6j) [(0,false,[C.tr false (T.int i64 sz)]),(0,false,[C.tr false (T.int i64 al)])] fun (r2:Bool)=>bif !r2 then gl r1.2.length<|gl r1.3.length<|gl r1.2.length<|gl r1.3.length<|some ([(oR (Ml.cs r1)),(false,[.tr true (T.int i64 1)])],(nu 5)) else d7 Q1 T9 (a4T) [(wMl m),(wHd h)] fun (r3:Int × Int)=>let q0:=atL Rm.cs r1.2 (0+r3.1.toNat) 6;let q1:=atL Rm.cs r1.2 (0+r3.1.toNat) (6+0);let q2:=atL Rm.cs r1.2 (0+r3.1.toNat) (8+0);let q4:=b7 (0+r3.1.toNat) 6 (T.int i64 (i64.wrap (q0.toI+1))) (eL 11 Rm.cs r1.2).fn;let q5:=b7 (0+r3.1.toNat) 7 (T.bool true) q4;let q6:=b7 (0+r3.1.toNat) 8 (T.int i64 0) q5;let q9:=b7 (0+r3.1.toNat) 8 (T.int i64 0) q5 (0+r3.1.toNat) (8+0);bif r3.2 != 0 then gl r1.2.length<|gl r1.3.length<|gl r1.2.length<|gl r1.3.length<|some ([(oR (Ml.cs r1)),(false,[.tr true (T.int i64 r3.2)])],(nu 5)) else gd (decide (0≤r3.1)&&(r3.1.toNat.blt m.2.length&&true))<|gd ((atL Rm.cs m.2 r3.1.toNat 9).isArr&&(atL Rm.cs m.2 r3.1.toNat 9).wd.beq 1)<|bif decide (12≤(↑(atL Rm.cs m.2 r3.1.toNat 9).ln:Int)) then gl r1.2.length<|gl r1.3.length<|gl r1.2.length<|gl r1.3.length<|some ([(oR (Ml.cs r1)),(false,[.tr true (T.int i64 8)])],(nu 5)) else gd (decide (0≤r3.1)&&(r3.1.toNat.blt r1.2.length&&true))<|bif decide (m.c.2 < sz) then d7 W9 O2 (a7M) [(0,false,[C.tr false (T.int i64 sz)]),(0,false,[C.tr false (T.int i64 m.c.2)])] fun (r4:Int)=>let q12:=b7 (0+r3.1.toNat) 6 (T.int i64 (i64.wrap (q0.toI+r4))) (eL 11 Rm.cs r1.2).fn;let q16:=b7 (0+r3.1.toNat) 6 (T.int i64 (i64.wrap (q0.toI+r4))) (eL 11 Rm.cs r1.2).fn (0+r3.1.toNat) 9;let q18:=b7 (0+r3.1.toNat) 6 (T.int i64 (i64.wrap (q0.toI+r4))) (eL 11 Rm.cs r1.2).fn (0+r3.1.toNat) (9+0);d7 F0 D3 (V8) [(wMl m)] fun (r5:Int)=>bif decide (m.c.1 < i64.wrap (r5+r4)) then gl r1.2.length<|gl r1.3.length<|gl r1.2.length<|gl r1.3.length<|some ([(oR (Ml.cs r1)),(false,[.tr true (T.int i64 5)])],(nu 5)) else bif fr then gl r1.2.length<|gl r1.3.length<|gl r1.2.length<|gl r1.3.length<|some ([(oR (Ml.cs r1)),(false,[.tr true (T.int i64 6)])],(nu 5)) else gd ((0+r3.1.toNat).blt r1.2.length&&true&&T.isI i64 q1)<|gd ((0+r3.1.toNat).blt r1.2.length&&true&&true)<|gd ((0+r3.1.toNat).blt r1.2.length&&true&&(q18.isArr&&q18.wd.beq 1))<|gd (decide (0≤sz)&&(decide (sz≤sz)&&((sz.toNat*1).ble 70368744177664&&sz.toNat.ble 70368744177664)))<|gl sz.toNat<|gl sz.toNat<|gd ((0+r3.1.toNat).blt r1.2.length&&true&&true&&((T.arr 11 r1.2.length q12).get [0+r3.1.toNat,9+0]).isArr)<|gd (q18.ln.ble ((T.arr 11 r1.2.length q12).get [0+r3.1.toNat,9+0]).ln&&Nat.beq 1 ((T.arr 11 r1.2.length q12).get [0+r3.1.toNat,9+0]).wd)<|gd (((q18.ln+1)*24).ble 70368744177664&&(q18.ln+1).ble 70368744177664)<|gd ((q18.ln+1).ble (q18.ln+1)&&true)<|gd ((0+r3.1.toNat).blt r1.2.length&&true&&true)<|gl r1.2.length<|gl r1.3.length<|gl r1.2.length<|gl r1.3.length<|some ([(true,[.tr true (T.int i64 r1.c.1),.tr true (T.int i64 r1.c.2),.tr true (T.int i64 r1.c.3),.tr true (T.int i64 r1.c.4),.tr true (T.int i64 r1.c.5),.tr true (T.int i64 r1.c.6),.tr true (.arr (11) (r1.2.length) (b7 (0+r3.1.toNat) 9 (T.arr 1 (q16.ln+1) (n6 q16.ln ((T.arr 11 r1.2.length q12).get [0+r3.1.toNat,9]).fn (i4 [[T.arr 1 sz.toNat (l3 0 sz.toNat (N9 prog 5))]]))) (b7 (0+r3.1.toNat) 9 T.hole q12))),.tr true (.arr (1) (r1.3.length) ((eL 1 b6 r1.3).fn))]),(false,[.tr true (T.int i64 0)])],(nu 5)) else gd ((0+r3.1.toNat).blt r1.2.length&&true&&(atL Rm.cs r1.2 (0+r3.1.toNat) (7+0)).isB)<|bif !(atL Rm.cs r1.2 (0+r3.1.toNat) (7+0)).toB then d7 F0 D3 (V8) [(wMl m)] fun (r7:Int)=>bif decide (m.c.1 < i64.wrap (r7+1)) then gl r1.2.length<|gl r1.3.length<|gl r1.2.length<|gl r1.3.length<|some ([(oR (Ml.cs r1)),(false,[.tr true (T.int i64 5)])],(nu 5)) else gd ((0+r3.1.toNat).blt r1.2.length&&true&&T.isI i64 q1)<|gd ((0+r3.1.toNat).blt r1.2.length&&true&&true)<|gd ((0+r3.1.toNat).blt r1.2.length&&true&&true)<|gd ((0+r3.1.toNat).blt r1.2.length&&true&&true)<|gd ((0+r3.1.toNat).blt r1.2.length&&true&&T.isI i64 q9)<|d7 H3 F1 (a0F) [(0,false,[C.tr false (T.int i64 q9.toI)]),(0,false,[C.tr false (T.int i64 al)])] fun (r8:Int)=>let q7:=b7 (0+r3.1.toNat) 8 (T.int i64 (i64.wrap (r8+sz))) q6;let q10:=b7 (0+r3.1.toNat) 8 (T.int i64 (i64.wrap (r8+sz))) q6 (0+r3.1.toNat) 9;let q13:=b7 (0+r3.1.toNat) 8 (T.int i64 (i64.wrap (r8+sz))) q6 (0+r3.1.toNat) (9+0);gd ((0+r3.1.toNat).blt r1.2.length&&true&&true)<|gd ((0+r3.1.toNat).blt r1.2.length&&true&&(q13.isArr&&q13.wd.beq 1))<|gd (decide (0≤sz)&&(decide (sz≤sz)&&((sz.toNat*1).ble 70368744177664&&sz.toNat.ble 70368744177664)))<|gl sz.toNat<|gl sz.toNat<|gd ((0+r3.1.toNat).blt r1.2.length&&true&&true&&((T.arr 11 r1.2.length q7).get [0+r3.1.toNat,9+0]).isArr)<|gd (q13.ln.ble ((T.arr 11 r1.2.length q7).get [0+r3.1.toNat,9+0]).ln&&Nat.beq 1 ((T.arr 11 r1.2.length q7).get [0+r3.1.toNat,9+0]).wd)<|gd (((q13.ln+1)*24).ble 70368744177664&&(q13.ln+1).ble 70368744177664)<|gd ((q13.ln+1).ble (q13.ln+1)&&true)<|gd ((0+r3.1.toNat).blt r1.2.length&&true&&true)<|gl r1.2.length<|gl r1.3.length<|gl r1.2.length<|gl r1.3.length<|some ([(true,[.tr true (T.int i64 r1.c.1),.tr true (T.int i64 r1.c.2),.tr true (T.int i64 r1.c.3),.tr true (T.int i64 r1.c.4),.tr true (T.int i64 r1.c.5),.tr true (T.int i64 r1.c.6),.tr true (.arr (11) (r1.2.length) (b7 (0+r3.1.toNat) 9 (T.arr 1 (q10.ln+1) (n6 q10.ln ((T.arr 11 r1.2.length q7).get [0+r3.1.toNat,9]).fn (i4 [[T.arr 1 sz.toNat (l3 0 sz.toNat (N9 prog 5))]]))) (b7 (0+r3.1.toNat) 9 T.hole q7))),.tr true (.arr (1) (r1.3.length) ((eL 1 b6 r1.3).fn))]),(false,[.tr true (T.int i64 0)])],(nu 5)) else gd ((0+r3.1.toNat).blt r1.2.length&&true&&T.isI i64 q2)<|d7 H3 F1 (a0F) [(0,false,[C.tr false (T.int i64 q2.toI)]),(0,false,[C.tr false (T.int i64 al)])] fun (r6:Int)=>bif decide (m.c.2 < i64.wrap (r6+sz)) then d7 F0 D3 (V8) [(wMl m)] fun (r9:Int)=>bif decide (m.c.1 < i64.wrap (r9+1)) then gl r1.2.length<|gl r1.3.length<|gl r1.2.length<|gl r1.3.length<|some ([(oR (Ml.cs r1)),(false,[.tr true (T.int i64 5)])],(nu 5)) else gd ((0+r3.1.toNat).blt r1.2.length&&true&&T.isI i64 q1)<|gd ((0+r3.1.toNat).blt r1.2.length&&true&&true)<|gd ((0+r3.1.toNat).blt r1.2.length&&true&&true)<|gd ((0+r3.1.toNat).blt r1.2.length&&true&&true)<|gd ((0+r3.1.toNat).blt r1.2.length&&true&&T.isI i64 q9)<|d7 H3 F1 (a0F) [(0,false,[C.tr false (T.int i64 q9.toI)]),(0,false,[C.tr false (T.int i64 al)])] fun (r10:Int)=>let q8:=b7 (0+r3.1.toNat) 8 (T.int i64 (i64.wrap (r10+sz))) q6;let q11:=b7 (0+r3.1.toNat) 8 (T.int i64 (i64.wrap (r10+sz))) q6 (0+r3.1.toNat) 9;let q14:=b7 (0+r3.1.toNat) 8 (T.int i64 (i64.wrap (r10+sz))) q6 (0+r3.1.toNat) (9+0);gd ((0+r3.1.toNat).blt r1.2.length&&true&&true)<|gd ((0+r3.1.toNat).blt r1.2.length&&true&&(q14.isArr&&q14.wd.beq 1))<|gd (decide (0≤sz)&&(decide (sz≤sz)&&((sz.toNat*1).ble 70368744177664&&sz.toNat.ble 70368744177664)))<|gl sz.toNat<|gl sz.toNat<|gd ((0+r3.1.toNat).blt r1.2.length&&true&&true&&((T.arr 11 r1.2.length q8).get [0+r3.1.toNat,9+0]).isArr)<|gd (q14.ln.ble ((T.arr 11 r1.2.length q8).get [0+r3.1.toNat,9+0]).ln&&Nat.beq 1 ((T.arr 11 r1.2.length q8).get [0+r3.1.toNat,9+0]).wd)<|gd (((q14.ln+1)*24).ble 70368744177664&&(q14.ln+1).ble 70368744177664)<|gd ((q14.ln+1).ble (q14.ln+1)&&true)<|gd ((0+r3.1.toNat).blt r1.2.length&&true&&true)<|gl r1.2.length<|gl r1.3.length<|gl r1.2.length<|gl r1.3.length<|some ([(true,[.tr true (T.int i64 r1.c.1),.tr true (T.int i64 r1.c.2),.tr true (T.int i64 r1.c.3),.tr true (T.int i64 r1.c.4),.tr true (T.int i64 r1.c.5),.tr true (T.int i64 r1.c.6),.tr true (.arr (11) (r1.2.length) (b7 (0+r3.1.toNat) 9 (T.arr 1 (q11.ln+1) (n6 q11.ln ((T.arr 11 r1.2.length q8).get [0+r3.1.toNat,9]).fn (i4 [[T.arr 1 sz.toNat (l3 0 sz.toNat (N9 prog 5))]]))) (b7 (0+r3.1.toNat) 9 T.hole q8))),.tr true (.arr (1) (r1.3.length) ((eL 1 b6 r1.3).fn))]),(false,[.tr true (T.int i64 0)])],(nu 5)) else gd ((0+r3.1.toNat).blt r1.2.length&&true&&T.isI i64 q2)<|d7 H3 F1 (a0F) [(0,false,[C.tr false (T.int i64 q2.toI)]),(0,false,[C.tr false (T.int i64 al)])] fun (r11:Int)=>let q3:=b7 (0+r3.1.toNat) 8 (T.int i64 (i64.wrap (r11+sz))) (eL 11 Rm.cs r1.2).fn;let q15:=b7 (0+r3.1.toNat) 8 (T.int i64 (i64.wrap (r11+sz))) (eL 11 Rm.cs r1.2).fn (0+r3.1.toNat) 9;let q17:=b7 (0+r3.1.toNat) 8 (T.int i64 (i64.wrap (r11+sz))) (eL 11 Rm.cs r1.2).fn (0+r3.1.toNat) (9+0);gd ((0+r3.1.toNat).blt r1.2.length&&true&&true)<|gd ((0+r3.1.toNat).blt r1.2.length&&true&&(q17.isArr&&q17.wd.beq 1))<|gd (decide (0≤sz)&&(decide (sz≤sz)&&((sz.toNat*1).ble 70368744177664&&sz.toNat.ble 70368744177664)))<|gl sz.toNat<|gl sz.toNat<|gd ((0+r3.1.toNat).blt r1.2.length&&true&&true&&((T.arr 11 r1.2.length q3).get [0+r3.1.toNat,9+0]).isArr)<|gd (q17.ln.ble ((T.arr 11 r1.2.length q3).get [0+r3.1.toNat,9+0]).ln&&Nat.beq 1 ((T.arr 11 r1.2.length q3).get [0+r3.1.toNat,9+0]).wd)<|gd (((q17.ln+1)*24).ble 70368744177664&&(q17.ln+1).ble 70368744177664)<|gd ((q17.ln+1).ble (q17.ln+1)&&true)<|gd ((0+r3.1.toNat).blt r1.2.length&&true&&true)<|gl r1.2.length<|gl r1.3.length<|gl r1.2.length<|gl r1.3.length<|some ([(true,[.tr true (T.int i64 r1.c.1),.tr true (T.int i64 r1.c.2),.tr true (T.int i64 r1.c.3),.tr true (T.int i64 r1.c.4),.tr true (T.int i64 r1.c.5),.tr true (T.int i64 r1.c.6),.tr true (.arr (11) (r1.2.length) (b7 (0+r3.1.toNat) 9 (T.arr 1 (q15.ln+1) (n6 q15.ln ((T.arr 11 r1.2.length q3).get [0+r3.1.toNat,9]).fn (i4 [[T.arr 1 sz.toNat (l3 0 sz.toNat (N9 prog 5))]]))) (b7 (0+r3.1.toNat) 9 T.hole q3))),.tr true (.arr (1) (r1.3.length) ((eL 1 b6 r1.3).fn))]),(false,[.tr true (T.int i64 0)])],(nu 5))):=by kernel_rfl
def M0 (x:Ml × Hd × Int × Int × Bool):Prop:=ok_RmS x.1.rooms∧m6 x.1.log
def F6 (x:Ml × Hd × Int × Int × Bool):List Arg:=[aR x.1.cs,aR x.2.1.cs,aI x.2.2.1,aI x.2.2.2.1,aB x.2.2.2.2]
def a0l (x:Ml × Hd × Int × Int × Bool):Ml × Int:=a0c x.1 x.2.1 x.2.2.1 x.2.2.2.1 x.2.2.2.2
noncomputable def b7W:Ent:=ent [] M0 F6 (fun (x:Ml × Int)=>([oR x.1.cs,oT (.int .i64 x.2)],[nul,nul,nul,nul,nul])) a0l
theorem b0j (x y:Ml × Hd × Int × Int × Bool) (h:F6 x=F6 y):x=y:=by
 obtain ⟨m1,h1,sz1,al1,fr1⟩:=x
 obtain ⟨m2,h2,sz2,al2,fr2⟩:=y
 simp only [F6,List.cons.injEq,and_true,true_and] at h
 obtain ⟨e0,e1,e2,e3,e4⟩:=h
 obtain rfl:=Ml.cs_ext (j6 e0)
 obtain rfl:=Hd.cs_ext (j6 e1)
 obtain rfl:=v9 e2
 obtain rfl:=v9 e3
 obtain rfl:=b5J e4
 rfl
theorem c7d {m:Ml} {h:Hd} {sz:Int} {al:Int} {fr:Bool} (h0:M0 (m,h,sz,al,fr)):dom M0 F6 [(wMl m),(wHd h),(0,false,[C.tr false (T.int i64 sz)]),(0,false,[C.tr false (T.int i64 al)]),(0,false,[C.tr false (T.bool fr)])]=true:=i3 (ea:=F6) (x:=(m,h,sz,al,fr)) h0
theorem c7e {m:Ml} {h:Hd} {sz:Int} {al:Int} {fr:Bool} (h0:M0 (m,h,sz,al,fr)):inv M0 F6 [(wMl m),(wHd h),(0,false,[C.tr false (T.int i64 sz)]),(0,false,[C.tr false (T.int i64 al)]),(0,false,[C.tr false (T.bool fr)])]=(m,h,sz,al,fr):=g9 b0j (x:=(m,h,sz,al,fr)) h0
theorem c9i (m:Ml) (h:Hd) (sz:Int) (al:Int) (fr:Bool):a0l (m,h,sz,al,fr)=a0c m h sz al fr:=rfl
def b7X:Nat:=118
noncomputable abbrev b0F:Func:=f118
def a8Y:List (Nat × List Nat):=[(0,kq [4,6,8,11,13,21,25,34,44,46,48,52,72,74,76,78,80,82,84,86,94,178,214]),(1,kq [4,6,8,11,13,21,25,34,44,46,48,52,72,74,76,78,80,82,84,86,94,178,214]),(2,kq [4,6,8,11,13,21,25,34,50,52,72,74,76,78,80,82,84,86,94,178,214]),(3,kq [21,22,25,34,52,94,178,214]),(4,kq [4,6,8,11,21,25,26,28,34,52,72,74,76,78,80,82,84,86,94,178,214]),(5,kq [4,6,8,11,21,25,26,28,34,52,88,94,178,214]),(6,kq [4,6,8,11,21,25,26,28,34,52,94,178,214]),(7,kq [4,6,8,11,21,25,26,28,34,52,92,94,178,214]),(8,kq [21,22,25,34,52,94,178,214]),(9,kq [4,6,8,11,21,25,26,28,34,52,94,106,178,214]),(10,kq [4,11,21,25,26,28,34,52,94,178,214]),(11,kq [4,8,11,21,25,26,28,30,34,52,94,178,214]),(12,kq [4,11,21,25,26,28,34,52,94,178,214]),(13,kq [4,8,11,21,25,26,28,30,34,52,94,150,178,214]),(14,kq [4,11,21,25,26,28,34,52,94,178,214]),(15,kq [4,11,21,25,26,28,30,34,52,94,168,178,214]),(16,kq [4,11,21,25,26,28,34,52,94,178,214]),(17,kq [4,11,21,25,26,28,34,52,94,174,178,214]),(18,kq [21,22,25,34,52,94,178,214]),(19,kq [21,25,34,52,94,178,214]),(20,kq [21,22,25,34,52,94,178,214])]
noncomputable abbrev e5Q:Sems:=b3 [(C8,C7),(a4V,a4W),(e2q,e2p),(L0,K9),(e2v,e2x),(e2m,e2l),(e7k,e7m),(b1b,b1a),(d2n,d2l)]
theorem c4Z (m:Ml) (h:Hd) (sz:Int) (al:Int) (fr:Bool) (n:Nat):body prog e5Q a8Y n b0F [aR m.cs,aR h.cs,aI sz,aI al,aB fr]=(d7 p9 w5 (E2) [(wMl m)] fun (r1:Ml)=>gl r1.2.length<|gl r1.3.length<|bif decide (1≤sz) then bif !decide (sz≤200) then gl r1.2.length<|gl r1.3.length<|gl r1.2.length<|gl r1.3.length<|some ([(oR (Ml.cs r1)),(false,[.tr true (T.int i64 1)])],(nu 5)) else d7 a6Z a2C (b9U) [(0,false,[C.tr false (T.int i64 al)])] fun (r2:Bool)=>bif !r2 then gl r1.2.length<|gl r1.3.length<|gl r1.2.length<|gl r1.3.length<|some ([(oR (Ml.cs r1)),(false,[.tr true (T.int i64 1)])],(nu 5)) else d7 Q2 U0 (a4U) [(wMl m),(wHd h)] fun (r3:Int × Int)=>let q0:=atL Rm.cs r1.2 (0+r3.1.toNat) 6;bif r3.2==0 then gd (decide (0≤r3.1)&&(r3.1.toNat.blt m.2.length&&true))<|gd ((atL Rm.cs m.2 r3.1.toNat 9).isArr&&(atL Rm.cs m.2 r3.1.toNat 9).wd.beq 1)<|bif decide (12≤(↑(atL Rm.cs m.2 r3.1.toNat 9).ln:Int)) then gl r1.2.length<|gl r1.3.length<|gl r1.2.length<|gl r1.3.length<|some ([(oR (Ml.cs r1)),(false,[.tr true (T.int i64 8)])],(nu 5)) else bif r3.2 != 0 then gl r1.2.length<|gl r1.3.length<|gl r1.2.length<|gl r1.3.length<|some ([(oR (Ml.cs r1)),(false,[.tr true (T.int i64 r3.2)])],(nu 5)) else bif !decide (m.c.2 < sz) then d7 a4u a1s (b2H) [(2,true,[C.tr true (T.int i64 r1.c.1),C.tr true (T.int i64 r1.c.2),C.tr true (T.int i64 r1.c.3),C.tr true (T.int i64 r1.c.4),C.tr true (T.int i64 r1.c.5),C.tr true (T.int i64 r1.c.6),C.tr true (T.arr 11 r1.2.length (eL 11 Rm.cs r1.2).fn),C.tr true (T.arr 1 r1.3.length (eL 1 b6 r1.3).fn)]),(0,false,[C.tr false (T.int i64 r3.1)]),(0,false,[C.tr false (T.int i64 sz)]),(0,false,[C.tr false (T.int i64 al)])] fun (r4:Ml × Int)=>let q1:=atL Rm.cs r4.fst.2 (0+r3.1.toNat) (9+0);bif r4.2 != 0 then d7 p9 w5 (E2) [(wMl m)] fun (r5:Ml)=>gl r5.2.length<|gl r5.3.length<|gl r5.2.length<|gl r5.3.length<|some ([(oR (Ml.cs r5)),(false,[.tr true (T.int i64 r4.2)])],(nu 5)) else gd (decide (0≤r3.1)&&(r3.1.toNat.blt r4.fst.2.length&&true))<|gd ((0+r3.1.toNat).blt r4.fst.2.length&&true&&(q1.isArr&&q1.wd.beq 1))<|d7 T2 L8 (a3x) [(0,false,[C.tr false (T.int i64 sz)])] fun (r6:List UInt8)=>gl r6.length<|gl r6.length<|gd ((0+r3.1.toNat).blt r4.fst.2.length&&true&&true&&((eL 11 Rm.cs r4.fst.2).get [0+r3.1.toNat,9+0]).isArr)<|gd (q1.ln.ble ((eL 11 Rm.cs r4.fst.2).get [0+r3.1.toNat,9+0]).ln&&Nat.beq 1 ((eL 11 Rm.cs r4.fst.2).get [0+r3.1.toNat,9+0]).wd)<|gd (((q1.ln+1)*24).ble 70368744177664&&(q1.ln+1).ble 70368744177664)<|gd (decide (0≤r3.1)&&(r3.1.toNat.blt r4.fst.2.length&&true))<|gd ((q1.ln+1).ble (q1.ln+1)&&true)<|gd ((0+r3.1.toNat).blt r4.fst.2.length&&true&&true)<|gl r4.fst.2.length<|gl r4.fst.3.length<|gl r4.fst.2.length<|gl r4.fst.3.length<|some ([(true,[.tr true (T.int i64 r4.fst.c.1),.tr true (T.int i64 r4.fst.c.2),.tr true (T.int i64 r4.fst.c.3),.tr true (T.int i64 r4.fst.c.4),.tr true (T.int i64 r4.fst.c.5),.tr true (T.int i64 r4.fst.c.6),.tr true (.arr (11) (r4.fst.2.length) (b7 (0+r3.1.toNat) 9 (T.arr 1 ((atL Rm.cs r4.fst.2 (0+r3.1.toNat) 9).ln+1) (n6 (atL Rm.cs r4.fst.2 (0+r3.1.toNat) 9).ln ((eL 11 Rm.cs r4.fst.2).get [0+r3.1.toNat,9]).fn (i4 [[T.arr 1 r6.length (atL f5 r6)]]))) (b7 (0+r3.1.toNat) 9 T.hole (atL Rm.cs r4.fst.2)))),.tr true (.arr (1) (r4.fst.3.length) ((eL 1 b6 r4.fst.3).fn))]),(false,[.tr true (T.int i64 0)])],(nu 5)) else d7 S7 J7 (a4s) [(0,false,[C.tr false (T.int i64 sz)]),(0,false,[C.tr false (T.int i64 m.c.2)])] fun (r7:Int)=>let q3:=b7 (0+r3.1.toNat) 6 (T.int i64 (i64.wrap (q0.toI+r7))) (eL 11 Rm.cs r1.2).fn;let q5:=b7 (0+r3.1.toNat) 6 (T.int i64 (i64.wrap (q0.toI+r7))) (eL 11 Rm.cs r1.2).fn (0+r3.1.toNat) 9;let q7:=b7 (0+r3.1.toNat) 6 (T.int i64 (i64.wrap (q0.toI+r7))) (eL 11 Rm.cs r1.2).fn (0+r3.1.toNat) (9+0);d7 B0 B1 (P7) [(wMl m)] fun (r8:Int)=>bif decide (m.c.1 < i64.wrap (r8+r7)) then d7 p9 w5 (E2) [(wMl m)] fun (r9:Ml)=>gl r9.2.length<|gl r9.3.length<|gl r9.2.length<|gl r9.3.length<|some ([(oR (Ml.cs r9)),(false,[.tr true (T.int i64 5)])],(nu 5)) else bif fr then d7 p9 w5 (E2) [(wMl m)] fun (r10:Ml)=>gl r10.2.length<|gl r10.3.length<|gl r10.2.length<|gl r10.3.length<|some ([(oR (Ml.cs r10)),(false,[.tr true (T.int i64 6)])],(nu 5)) else gd (decide (0≤r3.1)&&(r3.1.toNat.blt r1.2.length&&true))<|gd ((0+r3.1.toNat).blt r1.2.length&&true&&T.isI i64 (atL Rm.cs r1.2 (0+r3.1.toNat) (6+0)))<|gd (decide (0≤r3.1)&&(r3.1.toNat.blt r1.2.length&&true))<|gd ((0+r3.1.toNat).blt r1.2.length&&true&&true)<|bif r3.2 != 0 then d7 p9 w5 (E2) [(wMl m)] fun (r11:Ml)=>gl r11.2.length<|gl r11.3.length<|gl r11.2.length<|gl r11.3.length<|some ([(oR (Ml.cs r11)),(false,[.tr true (T.int i64 r3.2)])],(nu 5)) else gd (decide (0≤r3.1)&&(r3.1.toNat.blt r1.2.length&&true))<|gd ((0+r3.1.toNat).blt r1.2.length&&true&&(q7.isArr&&q7.wd.beq 1))<|d7 T2 L8 (a3x) [(0,false,[C.tr false (T.int i64 sz)])] fun (r12:List UInt8)=>gl r12.length<|gl r12.length<|gd ((0+r3.1.toNat).blt r1.2.length&&true&&true&&((T.arr 11 r1.2.length q3).get [0+r3.1.toNat,9+0]).isArr)<|gd (q7.ln.ble ((T.arr 11 r1.2.length q3).get [0+r3.1.toNat,9+0]).ln&&Nat.beq 1 ((T.arr 11 r1.2.length q3).get [0+r3.1.toNat,9+0]).wd)<|gd (((q7.ln+1)*24).ble 70368744177664&&(q7.ln+1).ble 70368744177664)<|gd (decide (0≤r3.1)&&(r3.1.toNat.blt r1.2.length&&true))<|gd ((q7.ln+1).ble (q7.ln+1)&&true)<|gd ((0+r3.1.toNat).blt r1.2.length&&true&&true)<|gl r1.2.length<|gl r1.3.length<|gl r1.2.length<|gl r1.3.length<|some ([(true,[.tr true (T.int i64 r1.c.1),.tr true (T.int i64 r1.c.2),.tr true (T.int i64 r1.c.3),.tr true (T.int i64 r1.c.4),.tr true (T.int i64 r1.c.5),.tr true (T.int i64 r1.c.6),.tr true (.arr (11) (r1.2.length) (b7 (0+r3.1.toNat) 9 (T.arr 1 (q5.ln+1) (n6 q5.ln ((T.arr 11 r1.2.length q3).get [0+r3.1.toNat,9]).fn (i4 [[T.arr 1 r12.length (atL f5 r12)]]))) (b7 (0+r3.1.toNat) 9 T.hole q3))),.tr true (.arr (1) (r1.3.length) ((eL 1 b6 r1.3).fn))]),(false,[.tr true (T.int i64 0)])],(nu 5)) else bif r3.2 != 0 then gl r1.2.length<|gl r1.3.length<|gl r1.2.length<|gl r1.3.length<|some ([(oR (Ml.cs r1)),(false,[.tr true (T.int i64 r3.2)])],(nu 5)) else bif !decide (m.c.2 < sz) then d7 a4u a1s (b2H) [(2,true,[C.tr true (T.int i64 r1.c.1),C.tr true (T.int i64 r1.c.2),C.tr true (T.int i64 r1.c.3),C.tr true (T.int i64 r1.c.4),C.tr true (T.int i64 r1.c.5),C.tr true (T.int i64 r1.c.6),C.tr true (T.arr 11 r1.2.length (eL 11 Rm.cs r1.2).fn),C.tr true (T.arr 1 r1.3.length (eL 1 b6 r1.3).fn)]),(0,false,[C.tr false (T.int i64 r3.1)]),(0,false,[C.tr false (T.int i64 sz)]),(0,false,[C.tr false (T.int i64 al)])] fun (r13:Ml × Int)=>let q2:=atL Rm.cs r13.fst.2 (0+r3.1.toNat) (9+0);bif r13.2 != 0 then d7 p9 w5 (E2) [(wMl m)] fun (r14:Ml)=>gl r14.2.length<|gl r14.3.length<|gl r14.2.length<|gl r14.3.length<|some ([(oR (Ml.cs r14)),(false,[.tr true (T.int i64 r13.2)])],(nu 5)) else gd (decide (0≤r3.1)&&(r3.1.toNat.blt r13.fst.2.length&&true))<|gd ((0+r3.1.toNat).blt r13.fst.2.length&&true&&(q2.isArr&&q2.wd.beq 1))<|d7 T2 L8 (a3x) [(0,false,[C.tr false (T.int i64 sz)])] fun (r15:List UInt8)=>gl r15.length<|gl r15.length<|gd ((0+r3.1.toNat).blt r13.fst.2.length&&true&&true&&((eL 11 Rm.cs r13.fst.2).get [0+r3.1.toNat,9+0]).isArr)<|gd (q2.ln.ble ((eL 11 Rm.cs r13.fst.2).get [0+r3.1.toNat,9+0]).ln&&Nat.beq 1 ((eL 11 Rm.cs r13.fst.2).get [0+r3.1.toNat,9+0]).wd)<|gd (((q2.ln+1)*24).ble 70368744177664&&(q2.ln+1).ble 70368744177664)<|gd (decide (0≤r3.1)&&(r3.1.toNat.blt r13.fst.2.length&&true))<|gd ((q2.ln+1).ble (q2.ln+1)&&true)<|gd ((0+r3.1.toNat).blt r13.fst.2.length&&true&&true)<|gl r13.fst.2.length<|gl r13.fst.3.length<|gl r13.fst.2.length<|gl r13.fst.3.length<|some ([(true,[.tr true (T.int i64 r13.fst.c.1),.tr true (T.int i64 r13.fst.c.2),.tr true (T.int i64 r13.fst.c.3),.tr true (T.int i64 r13.fst.c.4),.tr true (T.int i64 r13.fst.c.5),.tr true (T.int i64 r13.fst.c.6),.tr true (.arr (11) (r13.fst.2.length) (b7 (0+r3.1.toNat) 9 (T.arr 1 ((atL Rm.cs r13.fst.2 (0+r3.1.toNat) 9).ln+1) (n6 (atL Rm.cs r13.fst.2 (0+r3.1.toNat) 9).ln ((eL 11 Rm.cs r13.fst.2).get [0+r3.1.toNat,9]).fn (i4 [[T.arr 1 r15.length (atL f5 r15)]]))) (b7 (0+r3.1.toNat) 9 T.hole (atL Rm.cs r13.fst.2)))),.tr true (.arr (1) (r13.fst.3.length) ((eL 1 b6 r13.fst.3).fn))]),(false,[.tr true (T.int i64 0)])],(nu 5)) else d7 S7 J7 (a4s) [(0,false,[C.tr false (T.int i64 sz)]),(0,false,[C.tr false (T.int i64 m.c.2)])] fun (r16:Int)=>let q4:=b7 (0+r3.1.toNat) 6 (T.int i64 (i64.wrap (q0.toI+r16))) (eL 11 Rm.cs r1.2).fn;let q6:=b7 (0+r3.1.toNat) 6 (T.int i64 (i64.wrap (q0.toI+r16))) (eL 11 Rm.cs r1.2).fn (0+r3.1.toNat) 9;let q8:=b7 (0+r3.1.toNat) 6 (T.int i64 (i64.wrap (q0.toI+r16))) (eL 11 Rm.cs r1.2).fn (0+r3.1.toNat) (9+0);d7 B0 B1 (P7) [(wMl m)] fun (r17:Int)=>bif decide (m.c.1 < i64.wrap (r17+r16)) then d7 p9 w5 (E2) [(wMl m)] fun (r18:Ml)=>gl r18.2.length<|gl r18.3.length<|gl r18.2.length<|gl r18.3.length<|some ([(oR (Ml.cs r18)),(false,[.tr true (T.int i64 5)])],(nu 5)) else bif fr then d7 p9 w5 (E2) [(wMl m)] fun (r19:Ml)=>gl r19.2.length<|gl r19.3.length<|gl r19.2.length<|gl r19.3.length<|some ([(oR (Ml.cs r19)),(false,[.tr true (T.int i64 6)])],(nu 5)) else gd (decide (0≤r3.1)&&(r3.1.toNat.blt r1.2.length&&true))<|gd ((0+r3.1.toNat).blt r1.2.length&&true&&T.isI i64 (atL Rm.cs r1.2 (0+r3.1.toNat) (6+0)))<|gd (decide (0≤r3.1)&&(r3.1.toNat.blt r1.2.length&&true))<|gd ((0+r3.1.toNat).blt r1.2.length&&true&&true)<|bif r3.2 != 0 then d7 p9 w5 (E2) [(wMl m)] fun (r20:Ml)=>gl r20.2.length<|gl r20.3.length<|gl r20.2.length<|gl r20.3.length<|some ([(oR (Ml.cs r20)),(false,[.tr true (T.int i64 r3.2)])],(nu 5)) else gd (decide (0≤r3.1)&&(r3.1.toNat.blt r1.2.length&&true))<|gd ((0+r3.1.toNat).blt r1.2.length&&true&&(q8.isArr&&q8.wd.beq 1))<|d7 T2 L8 (a3x) [(0,false,[C.tr false (T.int i64 sz)])] fun (r21:List UInt8)=>gl r21.length<|gl r21.length<|gd ((0+r3.1.toNat).blt r1.2.length&&true&&true&&((T.arr 11 r1.2.length q4).get [0+r3.1.toNat,9+0]).isArr)<|gd (q8.ln.ble ((T.arr 11 r1.2.length q4).get [0+r3.1.toNat,9+0]).ln&&Nat.beq 1 ((T.arr 11 r1.2.length q4).get [0+r3.1.toNat,9+0]).wd)<|gd (((q8.ln+1)*24).ble 70368744177664&&(q8.ln+1).ble 70368744177664)<|gd (decide (0≤r3.1)&&(r3.1.toNat.blt r1.2.length&&true))<|gd ((q8.ln+1).ble (q8.ln+1)&&true)<|gd ((0+r3.1.toNat).blt r1.2.length&&true&&true)<|gl r1.2.length<|gl r1.3.length<|gl r1.2.length<|gl r1.3.length<|some ([(true,[.tr true (T.int i64 r1.c.1),.tr true (T.int i64 r1.c.2),.tr true (T.int i64 r1.c.3),.tr true (T.int i64 r1.c.4),.tr true (T.int i64 r1.c.5),.tr true (T.int i64 r1.c.6),.tr true (.arr (11) (r1.2.length) (b7 (0+r3.1.toNat) 9 (T.arr 1 (q6.ln+1) (n6 q6.ln ((T.arr 11 r1.2.length q4).get [0+r3.1.toNat,9]).fn (i4 [[T.arr 1 r21.length (atL f5 r21)]]))) (b7 (0+r3.1.toNat) 9 T.hole q4))),.tr true (.arr (1) (r1.3.length) ((eL 1 b6 r1.3).fn))]),(false,[.tr true (T.int i64 0)])],(nu 5)) else gl r1.2.length<|gl r1.3.length<|gl r1.2.length<|gl r1.3.length<|some ([(oR (Ml.cs r1)),(false,[.tr true (T.int i64 1)])],(nu 5))):=by kernel_rfl
end Go.Mach.F
namespace Go.Mach.F
open Go Go.Mach Go.Proofs.Tryz Go.IntKind
theorem c8p {l:List Rm} {j:Nat} {y:Rm} (hy:l[j]?=some y) (b:List UInt8):b7 j 9 (T.arr 1 (y.things.length+1) (n6 y.things.length (atL Sf.cs y.things) (i4 [[T.arr 1 b.length (atL f5 b)]]))) (b7 j 9 T.hole (atL Rm.cs l))=atL Rm.cs (l.set j { y with things:=y.things ++ [⟨b⟩] }):=by
 rw [a3w,show [T.arr 1 b.length (atL f5 b)]=Sf.cs ⟨b⟩ from rfl,a9x Sf.cs,U5]
 exact w6 hy (by simp only [Rm.cs,l7,List.length_append];rfl) (by decide:9 < 11)
theorem e7n (n:Nat):l3 0 n (N9 prog 5)=atL f5 (List.replicate n 0):=a0u (m:=1) (row:=f5) (d:=0) n (fun j k=>by rcases k with _ | _ <;> kernel_rfl)
theorem d6q {sz al:Int} (h:a5S sz al=true):(1≤sz∧sz≤200)∧b2r al=true:=by
 simp only [a5S,inR,Bool.and_eq_true,decide_eq_true_eq] at h
 exact h
theorem c2W (m:Ml) (h:Hd) (sz al:Int) (fr:Bool) (n:Nat) (h0:L9 (m,h,sz,al,fr)):body prog e5P a8X n b0E (F5 (m,h,sz,al,fr))=some ([oR (a0k (m,h,sz,al,fr)).1.cs,oT (.int .i64 (a0k (m,h,sz,al,fr)).2)],[nul,nul,nul,nul,nul]):=by
 have hlm:=lm
 obtain ⟨h1,h2⟩:ok_RmS m.rooms∧m6 m.log:=h0
 have hl:m.rooms.length≤LM:=h1.1
 have c0:A9 m:=⟨h1,h2⟩
 have c1:Q1 (m,h):=hl
 have c2:F0 m:=hl
 have c4:W9 (sz,m.c.size):=trivial
 unfold F5 a0k a0c
 dsimp only
 rw [c4Y]
 try simp only [l7,Ml.cs,Hd.cs]
 rw [b4 (a3s c0) (a3t c0)]
 simp only [a5G,f4,i6,Nat.le_refl]
 have c6:a3C (sz,al):=trivial
 rw [b4 (e5L c6) (e5M c6)]
 simp only [e9D]
 cases hsz:a5S sz al with
 | false =>
  simp only [Bool.not_false,cond_true,cond_false]
  rfl
 | true =>
 have hz:=(d6q hsz).1
 simp only [Bool.not_true,cond_true,cond_false]
 rw [b4 (b5Y c1) (b5Z c1)]
 simp only [b9y,w7,A1]
 by_cases e:(rsv m h).2=0
 case neg =>
  simp only [e,decide_false,Bool.not_false,cond_true,cond_false]
  rfl
 have hk:=a3r e
 have hx:=A2 hk.2
 unfold d2I a9D rmJ
 obtain ⟨x,hxe⟩:∃ x,x=m.rooms.getD (rsv m h).1.toNat zRm:=⟨_,rfl⟩
 rw [← hxe] at hx ⊢
 have hy:=h1.2 _ (List.mem_of_getElem? hx)
 have hg:x.things.length≤LM:=hy.2.1.1
 have e0:=hk.1
 have e1:=hk.2
 have s1:(x.things.length+1)*24≤70368744177664:=by omega
 have s2:x.things.length+1≤70368744177664:=by omega
 have s3:sz.toNat*1≤70368744177664:=by omega
 have s4:sz.toNat≤70368744177664:=by omega
 have s5:0≤sz:=by omega
 have c3:H3 (x.bump,al):=trivial
 have c5:H3 (0,al):=trivial
 have h6:∀ b:Int,b7 (rsv m h).1.toNat 6 (.int .i64 (i64.wrap (x.chunks+b))) (atL Rm.cs m.rooms)=atL Rm.cs (m.rooms.set (rsv m h).1.toNat (a5T x b)):=fun b=>w6 hx rfl (by decide:6 < 11)
 have hb6:∀ b:Int,(m.rooms.set (rsv m h).1.toNat (a5T x b))[(rsv m h).1.toNat]?=some (a5T x b):=fun b=>R6 hx
 have h9:∀ (y:Rm) (b:List UInt8),b7 (rsv m h).1.toNat 9 (T.arr 1 (y.things.length+1) (n6 y.things.length (atL Sf.cs y.things) (i4 [[T.arr 1 b.length (atL f5 b)]]))) (b7 (rsv m h).1.toNat 9 T.hole (atL Rm.cs (m.rooms.set (rsv m h).1.toNat y)))=atL Rm.cs (m.rooms.set (rsv m h).1.toNat { y with things:=y.things ++ [⟨b⟩] }):=fun y b=>by
  rw [c8p (R6 hx),List.set_set]
 simp only [f4,e,e0,e1,Nat.add_zero,d6 hx,Rm.cs,T.get,i6,Nat.le_refl,Int.le_refl,e7n,s1,s2,s3,s4,s5]
 by_cases a3:12≤(x.things.length:Int)
 ·simp only [a3,decide_true,cond_true,A1]
  rfl
 simp only [a3,decide_false,cond_false,a8W]
 by_cases a4:m.c.size < sz
 ·simp only [a4,decide_true,cond_true]
  rw [b4 (d4a c4) (d4b c4)]
  simp only [d8o]
  rw [b4 (a4X c2) (a4Y c2)]
  simp only [a7K]
  by_cases a5:m.c.chunks < i64.wrap (tkn m.rooms+cdv sz m.c.size)
  ·simp only [a5,decide_true,cond_true]
   rfl
  simp only [a5,decide_false,cond_false]
  cases fr with
  | true=>rfl
  | false =>
   have hh:=h9 (a5T x (cdv sz m.c.size)) (List.replicate sz.toNat 0)
   have s6:((a5T x (cdv sz m.c.size)).things.length+1)*24≤70368744177664:=s1
   have s7:(a5T x (cdv sz m.c.size)).things.length+1≤70368744177664:=s2
   simp only [List.length_replicate] at hh
   simp only [cond_false,h6,d6 (hb6 _),Rm.cs,f4,Nat.le_refl,i6,s6,s7,hh,T.get,e1,Bool.not_false]
   simp only [oR,Ml.cs,a7U,l7,List.length_set]
   rfl
 simp only [a4,decide_false,cond_false]
 have h8:∀ b:Int,b7 (rsv m h).1.toNat 8 (.int .i64 b) (b7 (rsv m h).1.toNat 8 (.int .i64 0) (b7 (rsv m h).1.toNat 7 (.bool true) (b7 (rsv m h).1.toNat 6 (.int .i64 (i64.wrap (x.chunks+1))) (atL Rm.cs m.rooms))))=atL Rm.cs (m.rooms.set (rsv m h).1.toNat { x with chunks:=i64.wrap (x.chunks+1),cur:=true,bump:=b }):=fun b=>by
  rw [a3w,h6,w6 (y:={ x with chunks:=i64.wrap (x.chunks+1),cur:=true }) (R6 hx) rfl (by decide:7 < 11),List.set_set,
   w6 (y:={ x with chunks:=i64.wrap (x.chunks+1),cur:=true,bump:=b }) (R6 hx) rfl (by decide:8 < 11),List.set_set]
 have hb8:∀ b:Int,(m.rooms.set (rsv m h).1.toNat { x with chunks:=i64.wrap (x.chunks+1),cur:=true,bump:=b })[(rsv m h).1.toNat]?=some { x with chunks:=i64.wrap (x.chunks+1),cur:=true,bump:=b }:=fun b=>R6 hx
 have h8b:∀ b:Int,b7 (rsv m h).1.toNat 8 (.int .i64 b) (atL Rm.cs m.rooms)=atL Rm.cs (m.rooms.set (rsv m h).1.toNat { x with bump:=b }):=fun b=>w6 hx rfl (by decide:8 < 11)
 have hb8b:∀ b:Int,(m.rooms.set (rsv m h).1.toNat { x with bump:=b })[(rsv m h).1.toNat]?=some { x with bump:=b }:=fun b=>R6 hx
 have new:∀ (b:Int),_:=fun b=>h9 { x with chunks:=i64.wrap (x.chunks+1),cur:=true,bump:=b } (List.replicate sz.toNat 0)
 have old:∀ (b:Int),_:=fun b=>h9 { x with bump:=b } (List.replicate sz.toNat 0)
 simp only [List.length_replicate] at new old
 cases hc:x.cur with
 | false =>
  simp only [Bool.not_false,cond_true,Bool.true_or,Bool.true_and]
  rw [b4 (a4X c2) (a4Y c2)]
  simp only [a7K]
  by_cases a5:m.c.chunks < i64.wrap (tkn m.rooms+1)
  ·simp only [a5,decide_true,cond_true]
   rfl
  simp only [a5,decide_false,cond_false,a8h,b1i,b1j,gdt]
  rw [b4 (a9y c5) (a9z c5)]
  simp only [b0Z,h8,d6 (hb8 _),Rm.cs,f4,Nat.le_refl,i6,s1,s2,new,T.get,e1]
  simp only [oR,Ml.cs,a7U,a7T,cond_true,l7,List.length_set]
  rfl
 | true =>
  simp only [Bool.not_true,cond_false,Bool.false_or]
  rw [b4 (a9y c3) (a9z c3)]
  simp only [b0Z]
  by_cases a6:m.c.size < i64.wrap (aup x.bump al+sz)
  ·simp only [a6,decide_true,cond_true,Bool.true_and]
   rw [b4 (a4X c2) (a4Y c2)]
   simp only [a7K]
   by_cases a5:m.c.chunks < i64.wrap (tkn m.rooms+1)
   ·simp only [a5,decide_true,cond_true]
    rfl
   simp only [a5,decide_false,cond_false,a8h,b1i,b1j,gdt]
   rw [b4 (a9y c5) (a9z c5)]
   simp only [b0Z,h8,d6 (hb8 _),Rm.cs,f4,Nat.le_refl,i6,s1,s2,new,T.get,e1]
   simp only [oR,Ml.cs,a7U,a7T,cond_true,l7,List.length_set]
   rfl
  simp only [a6,decide_false,cond_false,Bool.false_and]
  rw [b4 (a9y c3) (a9z c3)]
  simp only [b0Z,h8b,d6 (hb8b _),Rm.cs,f4,Nat.le_refl,i6,s1,s2,old,T.get,e1]
  simp only [oR,Ml.cs,a7U,a7T,cond_false,l7,List.length_set]
  rfl
theorem c9j:d8 prog b7V b7U:=g8 b0i fun x hx =>
 b9 (φ:=e5P) (a9 a5J (a9 e9G (a9 b9A (a9 f2c (a9 f2U (a9 e5O (a9 d8r b5))))))) d9 (kp:=a8X) (n:=0) func85 (c:=d3 b0E) (by kernel_rfl) (c2W x.1 x.2.1 x.2.2.1 x.2.2.2.1 x.2.2.2.2 (0) hx) (b8 (by kernel_rfl))
theorem d4k (x:Rm) (b:Bool) (sz al:Int):(a7T x b sz al).things=x.things:=by cases b <;> rfl
theorem f2g {sz:Int} (h:1≤sz∧sz≤200):zer sz=List.replicate sz.toNat 0:=by
 have a:0≤sz:=by omega
 have b:sz≤4096:=by omega
 simp only [zer,inR,a,b,decide_true,Bool.and_self,cond_true]
theorem c2X (m:Ml) (h:Hd) (sz al:Int) (fr:Bool) (n:Nat) (h0:M0 (m,h,sz,al,fr)):body prog e5Q a8Y n b0F (F6 (m,h,sz,al,fr))=some ([oR (a0l (m,h,sz,al,fr)).1.cs,oT (.int .i64 (a0l (m,h,sz,al,fr)).2)],[nul,nul,nul,nul,nul]):=by
 have hlm:=lm
 obtain ⟨h1,h2⟩:ok_RmS m.rooms∧m6 m.log:=h0
 have hl:m.rooms.length≤LM:=h1.1
 have c0:p9 m:=⟨h1,h2⟩
 have c1:Q2 (m,h):=hl
 have c2:B0 m:=hl
 have c4:S7 (sz,m.c.size):=trivial
 unfold F6 a0l a0c
 dsimp only
 rw [c4Z]
 try simp only [l7,Ml.cs,Hd.cs]
 rw [b4 (W7 c0) (W8 c0)]
 simp only [a0Q,f4,i6,Nat.le_refl]
 have c6:a6Z al:=trivial
 have c8:T2 sz:=trivial
 by_cases z1:1≤sz
 case neg =>
  rw [show a5S sz al=false by simp only [a5S,inR,z1,decide_false,Bool.false_and]]
  simp only [z1,decide_false,cond_false]
  rfl
 by_cases z2:sz≤200
 case neg =>
  rw [show a5S sz al=false by simp only [a5S,inR,z2,decide_false,Bool.and_false,Bool.false_and]]
  simp only [z1,z2,decide_true,decide_false,cond_true,cond_false,Bool.not_false]
  rfl
 simp only [z1,z2,decide_true,cond_true,cond_false,Bool.not_true]
 rw [b4 (e9E c6) (e9F c6)]
 simp only [f2a]
 rw [show a5S sz al=b2r al by simp only [a5S,inR,z1,z2,decide_true,Bool.true_and]]
 have hz:1≤sz∧sz≤200:=⟨z1,z2⟩
 cases hal:b2r al with
 | false =>
  simp only [Bool.not_false,cond_true,cond_false]
  rfl
 | true =>
 simp only [Bool.not_true,cond_true,cond_false]
 rw [b4 (b6a c1) (b6b c1)]
 simp only [b9z,w7,A1]
 by_cases e:(rsv m h).2=0
 case neg =>
  simp only [e,decide_false,Bool.not_false,cond_true,cond_false]
  rfl
 have hk:=a3r e
 have hx:=A2 hk.2
 unfold d2I a9D rmJ
 obtain ⟨x,hxe⟩:∃ x,x=m.rooms.getD (rsv m h).1.toNat zRm:=⟨_,rfl⟩
 rw [← hxe] at hx ⊢
 have hy:=h1.2 _ (List.mem_of_getElem? hx)
 have hg:x.things.length≤LM:=hy.2.1.1
 have e0:=hk.1
 have e1:=hk.2
 have s1:(x.things.length+1)*24≤70368744177664:=by omega
 have s2:x.things.length+1≤70368744177664:=by omega
 have s3:sz.toNat*1≤70368744177664:=by omega
 have s4:sz.toNat≤70368744177664:=by omega
 have s5:0≤sz:=by omega
 have c3:D4 (x.bump,al):=trivial
 have c5:D4 (0,al):=trivial
 have h6:∀ b:Int,b7 (rsv m h).1.toNat 6 (.int .i64 (i64.wrap (x.chunks+b))) (atL Rm.cs m.rooms)=atL Rm.cs (m.rooms.set (rsv m h).1.toNat (a5T x b)):=fun b=>w6 hx rfl (by decide:6 < 11)
 have hb6:∀ b:Int,(m.rooms.set (rsv m h).1.toNat (a5T x b))[(rsv m h).1.toNat]?=some (a5T x b):=fun b=>R6 hx
 have h9:∀ (y:Rm) (b:List UInt8),b7 (rsv m h).1.toNat 9 (T.arr 1 (y.things.length+1) (n6 y.things.length (atL Sf.cs y.things) (i4 [[T.arr 1 b.length (atL f5 b)]]))) (b7 (rsv m h).1.toNat 9 T.hole (atL Rm.cs (m.rooms.set (rsv m h).1.toNat y)))=atL Rm.cs (m.rooms.set (rsv m h).1.toNat { y with things:=y.things ++ [⟨b⟩] }):=fun y b=>by
  rw [c8p (R6 hx),List.set_set]
 simp only [f4,e,e0,e1,Nat.add_zero,d6 hx,Rm.cs,T.get,i6,Nat.le_refl,Int.le_refl,e7n,s1,s2,s3,s4,s5]
 by_cases a3:12≤(x.things.length:Int)
 ·simp only [a3,decide_true,cond_true,A1]
  rfl
 simp only [a3,decide_false,cond_false,a8W]
 have hz0:=f2g hz
 by_cases a4:m.c.size < sz
 ·simp only [a4,decide_true,Bool.not_true,cond_false,cond_true]
  rw [b4 (d4c c4) (d4d c4)]
  simp only [d8p]
  rw [b4 (a4Z c2) (a5a c2)]
  simp only [a7N]
  by_cases a5:m.c.chunks < i64.wrap (tkn m.rooms+cdv sz m.c.size)
  ·simp only [a5,decide_true,cond_true]
   rw [b4 (W7 c0) (W8 c0)]
   simp only [a0Q,f4,i6,Nat.le_refl]
   rfl
  simp only [a5,decide_false,cond_false]
  cases fr with
  | true =>
   simp only [cond_true]
   rw [b4 (W7 c0) (W8 c0)]
   simp only [a0Q,f4,i6,Nat.le_refl]
   rfl
  | false =>
   have hh:=h9 (a5T x (cdv sz m.c.size)) (List.replicate sz.toNat 0)
   have s6:((a5T x (cdv sz m.c.size)).things.length+1)*24≤70368744177664:=s1
   have s7:(a5T x (cdv sz m.c.size)).things.length+1≤70368744177664:=s2
   simp only [cond_false,h6,d6 (hb6 _),Rm.cs,f4,Nat.le_refl,i6,T.get,e1,Bool.not_false]
   rw [b4 (c8k c8) (c8l c8)]
   simp only [d2m,hz0,f4,Nat.le_refl,i6,s6,s7,hh,e1]
   simp only [oR,Ml.cs,a7U,l7,List.length_set]
   rfl
 simp only [a4,decide_false,Bool.not_false,cond_false,cond_true]
 have c7:a4u (m,(rsv m h).1,sz,al):=⟨hl,e0,e1⟩
 rw [b4 (e9B c7) (e9C c7)]
 have hsm:d2F m (rsv m h).1 sz al=bif (!x.cur || decide (m.c.size < i64.wrap (aup x.bump al+sz)))&&decide (m.c.chunks < i64.wrap (tkn m.rooms+1)) then (m,5) else (a8W m (rsv m h).1 (a7T x (!x.cur || decide (m.c.size < i64.wrap (aup x.bump al+sz))) sz al),0):=by
  unfold d2F a9D rmJ
  rw [← hxe]
 simp only [f1Y,hsm]
 generalize (!x.cur || decide (m.c.size < i64.wrap (aup x.bump al+sz)))=N
 cases (N&&decide (m.c.chunks < i64.wrap (tkn m.rooms+1))) with
 | true =>
  simp only [cond_true,show ¬ (5:Int)=0 by decide,decide_false,Bool.not_false]
  rw [b4 (W7 c0) (W8 c0)]
  simp only [a0Q,f4,i6,Nat.le_refl]
  rfl
 | false =>
  have hb:=R6 (y:=a7T x N sz al) hx
  have ht:=d4k x N sz al
  have hh:=h9 (a7T x N sz al) (List.replicate sz.toNat 0)
  rw [ht] at hh
  simp only [cond_false,a8W,decide_true,Bool.not_true,f4,d6 hb,Rm.cs,ht,List.length_set,e1,T.get,s1,s2,i6,Nat.le_refl]
  rw [b4 (c8k c8) (c8l c8)]
  simp only [d2m,hz0,f4,Nat.le_refl,i6,s1,s2,hh,e1,List.length_set]
  simp only [oR,Ml.cs,a7U,ht,l7,List.length_set]
  rfl
theorem c9k:d8 prog b7X b7W:=g8 b0j fun x hx =>
 b9 (φ:=e5Q) (a9 a5K (a9 b9C (a9 f2b (a9 b9B (a9 f2d (a9 f1Z (a9 f2V (a9 b7e (a9 e5o b5))))))))) d9 (kp:=a8Y) (n:=0) func118 (c:=d3 b0F) (by kernel_rfl) (c2X x.1 x.2.1 x.2.2.1 x.2.2.2.1 x.2.2.2.2 (0) hx) (b8 (by kernel_rfl))
end Go.Mach.F
namespace Go.Mach.F
open Go Go.Mach Go.Proofs.Tryz Go.IntKind
--=set_option maxRecDepth 100000
def gat (l:List UInt8) (k c:Int):List UInt8 × Bool:=bif ((decide (0≤c)&&decide (c≤(l.length:Int)))&&(decide (0≤k)&&decide (k≤(l.length:Int) - c))) then ((l.drop k.toNat).take c.toNat,true) else ([],false)
def a1D (x:List UInt8 × Int × Int):Prop:=x.1.length≤LM
def X5 (x:List UInt8 × Int × Int):List Arg:=[aT (eB x.1),aI x.2.1,aI x.2.2]
def a8Z (x:List UInt8 × Int × Int):List UInt8 × Bool:=gat x.1 x.2.1 x.2.2
noncomputable def d2M:Ent:=ent [] a1D X5 (fun (x:List UInt8 × Bool)=>([oT (eB x.1),oT (.bool x.2)],[nul,nul,nul])) a8Z
theorem b7Y (x y:List UInt8 × Int × Int) (h:X5 x=X5 y):x=y:=by
 obtain ⟨l1,k1,c1⟩:=x
 obtain ⟨l2,k2,c2⟩:=y
 simp only [X5,List.cons.injEq,and_true,true_and] at h
 obtain ⟨e0,e1,e2⟩:=h
 obtain rfl:=P1 (K7 e0)
 obtain rfl:=v9 e1
 obtain rfl:=v9 e2
 rfl
theorem e2z {l:List UInt8} {k:Int} {c:Int} (h:a1D (l,k,c)):dom a1D X5 [(0,false,[C.tr false (T.arr 1 l.length (atL f5 l))]),(0,false,[C.tr false (T.int i64 k)]),(0,false,[C.tr false (T.int i64 c)])]=true:=i3 (ea:=X5) (x:=(l,k,c)) h
theorem e2A {l:List UInt8} {k:Int} {c:Int} (h:a1D (l,k,c)):inv a1D X5 [(0,false,[C.tr false (T.arr 1 l.length (atL f5 l))]),(0,false,[C.tr false (T.int i64 k)]),(0,false,[C.tr false (T.int i64 c)])]=(l,k,c):=g9 b7Y (x:=(l,k,c)) h
theorem e5R (l:List UInt8) (k:Int) (c:Int):a8Z (l,k,c)=gat l k c:=rfl
def d2N:Nat:=143
noncomputable abbrev c2Y:Func:=f143
def b9V:List (Nat × List Nat):=[(0,[0,4,8]),(1,[0,4,8,52]),(2,[24,28]),(3,[24,28])]
noncomputable abbrev c7f:Sems:=b3 [(e1B,e1D),(d8a,d8b)]
theorem d8x (l:List UInt8) (k:Int) (c:Int) (n:Nat):body prog c7f b9V n c2Y [aT (eB l),aI k,aI c]=(bif decide (0≤c) then bif decide (c≤(↑l.length:Int)) then bif decide (0≤k) then bif !decide (k≤i64.wrap ((↑l.length:Int) - c)) then some ([(false,[.tr true (.arr (1) (0) (fun x x_1=>T.hole))]),(false,[.tr true (T.bool false)])],(nu 3)) else gd (decide (0≤k)&&(decide (k≤i64.wrap (k+c))&&decide (i64.wrap (k+c)≤(↑l.length:Int))))<|d7 a0B a4Q (c4C) [(0,false,[C.tr false (T.arr 1 ((i64.wrap (k+c)).toNat - k.toNat) (l3 k.toNat ((i64.wrap (k+c)).toNat - k.toNat) (atL f5 l)))])] fun (r1:List UInt8)=>gl r1.length<|gl r1.length<|some ([(false,[.tr true (.arr (1) (r1.length) (atL f5 r1))]),(false,[.tr true (T.bool true)])],(nu 3)) else some ([(false,[.tr true (.arr (1) (0) (fun x x_1=>T.hole))]),(false,[.tr true (T.bool false)])],(nu 3)) else some ([(false,[.tr true (.arr (1) (0) (fun x x_1=>T.hole))]),(false,[.tr true (T.bool false)])],(nu 3)) else some ([(false,[.tr true (.arr (1) (0) (fun x x_1=>T.hole))]),(false,[.tr true (T.bool false)])],(nu 3))):=by kernel_rfl
def a1E (x:List UInt8 × Int × Int):Prop:=x.1.length≤LM
def X6 (x:List UInt8 × Int × Int):List Arg:=[aT (eB x.1),aI x.2.1,aI x.2.2]
def a9a (x:List UInt8 × Int × Int):List UInt8 × Bool:=gat x.1 x.2.1 x.2.2
noncomputable def d2O:Ent:=ent [] a1E X6 (fun (x:List UInt8 × Bool)=>([oT (eB x.1),oT (.bool x.2)],[nul,nul,nul])) a9a
theorem b7Z (x y:List UInt8 × Int × Int) (h:X6 x=X6 y):x=y:=by
 obtain ⟨l1,k1,c1⟩:=x
 obtain ⟨l2,k2,c2⟩:=y
 simp only [X6,List.cons.injEq,and_true,true_and] at h
 obtain ⟨e0,e1,e2⟩:=h
 obtain rfl:=P1 (K7 e0)
 obtain rfl:=v9 e1
 obtain rfl:=v9 e2
 rfl
theorem e2B {l:List UInt8} {k:Int} {c:Int} (h:a1E (l,k,c)):dom a1E X6 [(0,false,[C.tr false (T.arr 1 l.length (atL f5 l))]),(0,false,[C.tr false (T.int i64 k)]),(0,false,[C.tr false (T.int i64 c)])]=true:=i3 (ea:=X6) (x:=(l,k,c)) h
theorem e2C {l:List UInt8} {k:Int} {c:Int} (h:a1E (l,k,c)):inv a1E X6 [(0,false,[C.tr false (T.arr 1 l.length (atL f5 l))]),(0,false,[C.tr false (T.int i64 k)]),(0,false,[C.tr false (T.int i64 c)])]=(l,k,c):=g9 b7Z (x:=(l,k,c)) h
theorem e5S (l:List UInt8) (k:Int) (c:Int):a9a (l,k,c)=gat l k c:=rfl
def d2P:Nat:=121
noncomputable abbrev c2Z:Func:=f121
def b9W:List (Nat × List Nat):=[(0,[0,4,8]),(1,[0,4,8,48]),(2,[24,28]),(3,[24,28])]
noncomputable abbrev b5g:Sems:=b3 [(c8g,c8i)]
theorem d8y (l:List UInt8) (k:Int) (c:Int) (n:Nat):body prog b5g b9W n c2Z [aT (eB l),aI k,aI c]=(bif decide (0≤k) then bif decide (0≤c) then bif decide (k≤(↑l.length:Int)) then bif !decide (c≤i64.wrap ((↑l.length:Int) - k)) then some ([(false,[.tr true (.arr (1) (0) (i4 []))]),(false,[.tr true (T.bool false)])],(nu 3)) else gd (decide (0≤k)&&(decide (k≤i64.wrap (k+c))&&decide (i64.wrap (k+c)≤(↑l.length:Int))))<|gd (((0+((i64.wrap (k+c)).toNat - k.toNat))*1).ble 70368744177664&&(0+((i64.wrap (k+c)).toNat - k.toNat)).ble 70368744177664)<|gd ((0+((i64.wrap (k+c)).toNat - k.toNat)).ble (0+((i64.wrap (k+c)).toNat - k.toNat))&&true)<|gd ((0+((i64.wrap (k+c)).toNat - k.toNat)).ble (0+((i64.wrap (k+c)).toNat - k.toNat))&&true)<|some ([(false,[.tr true (.arr (1) (0+((i64.wrap (k+c)).toNat - k.toNat)) (n6 0 (i4 []) (n7 (l3 k.toNat ((i64.wrap (k+c)).toNat - k.toNat) (atL f5 l)))))]),(false,[.tr true (T.bool true)])],(nu 3)) else some ([(false,[.tr true (.arr (1) (0) (i4 []))]),(false,[.tr true (T.bool false)])],(nu 3)) else some ([(false,[.tr true (.arr (1) (0) (i4 []))]),(false,[.tr true (T.bool false)])],(nu 3)) else some ([(false,[.tr true (.arr (1) (0) (i4 []))]),(false,[.tr true (T.bool false)])],(nu 3))):=by kernel_rfl
end Go.Mach.F
namespace Go.Mach.F
open Go Go.Mach Go.Proofs.Tryz Go.IntKind
theorem c8q {l:List UInt8} {k c:Int} (h1:¬ (0≤c∧c≤(l.length:Int)∧0≤k∧k≤(l.length:Int) - c)):((decide (0≤c)&&decide (c≤(l.length:Int)))&&(decide (0≤k)&&decide (k≤(l.length:Int) - c)))=false:=by
 cases hb:((decide (0≤c)&&decide (c≤(l.length:Int)))&&(decide (0≤k)&&decide (k≤(l.length:Int) - c))) with
 | false=>rfl
 | true =>
  simp only [Bool.and_eq_true,decide_eq_true_eq] at hb
  exact absurd ⟨hb.1.1,hb.1.2,hb.2.1,hb.2.2⟩ h1
theorem d4l (l:List UInt8) (k c:Int) (n:Nat) (h:a1D (l,k,c)):body prog c7f b9V n c2Y (X5 (l,k,c))=some ([oT (eB (a8Z (l,k,c)).1),oT (.bool (a8Z (l,k,c)).2)],[nul,nul,nul]):=by
 have hlm:=lm
 have hl:l.length≤LM:=h
 unfold X5 a8Z gat
 dsimp only
 rw [d8x]
 by_cases h1:0≤c∧c≤(l.length:Int)∧0≤k∧k≤(l.length:Int) - c
 ·obtain ⟨a1,a2,a3,a4⟩:=h1
  have a5:k≤(l.length:Int):=by omega
  have a6:c≤(l.length:Int) - k:=by omega
  have w1:i64.wrap ((l.length:Int) - c)=(l.length:Int) - c:=by rw [IntKind.wrap_i64];omega
  have w2:i64.wrap ((l.length:Int) - k)=(l.length:Int) - k:=by rw [IntKind.wrap_i64];omega
  have w3:i64.wrap (k+c)=k+c:=by rw [IntKind.wrap_i64];omega
  have a7:k≤k+c:=by omega
  have a8:k+c≤(l.length:Int):=by omega
  have w4:(k+c).toNat - k.toNat=c.toNat:=by omega
  have hc:=d9u (m:=1) (row:=f5) (l:=l) (s:=k.toNat) (n:=c.toNat) (by omega)
  have hle:((l.drop k.toNat).take c.toNat).length=c.toNat:=by simp;omega
  try simp only [l7,c4k,hle] at hc
  injection hc with _ _ hc
  have c0:a0B ((l.drop k.toNat).take c.toNat):=by unfold a0B;rw [hle];omega
  have s1:c.toNat*1≤70368744177664:=by omega
  have s2:c.toNat≤70368744177664:=by omega
  have e1:n6 0 (i4 []) (n7 (atL f5 ((l.drop k.toNat).take c.toNat)))=atL f5 ((l.drop k.toNat).take c.toNat):=by rw [b5V,b0B]
  simp only [a1,a2,a3,a4,a5,a6,a7,a8,w1,w2,w3,w4,decide_true,cond_true,Bool.and_self,Bool.not_true,cond_false,f4,hc,i6,s1,s2,Nat.le_refl,e1]
  have d1:=d1D c0
  have d2:=d1E c0
  rw [hle] at d1 d2
  rw [b4 d1 d2]
  simp only [d8c,f4,i6,Nat.le_refl,hle]
  simp only [oT,l7,hle]
  rfl
 ·rw [c8q h1]
  by_cases a1:0≤c
  case neg =>
   simp only [a1,decide_false,cond_false]
   rfl
  by_cases a2:c≤(l.length:Int)
  case neg =>
   simp only [a1,a2,decide_true,decide_false,cond_true,cond_false]
   rfl
  by_cases a3:0≤k
  case neg =>
   simp only [a1,a2,a3,decide_true,decide_false,cond_true,cond_false]
   rfl
  have w1:i64.wrap ((l.length:Int) - c)=(l.length:Int) - c:=by rw [IntKind.wrap_i64];omega
  have a4:¬ k≤(l.length:Int) - c:=fun e=>h1 ⟨a1,a2,a3,e⟩
  simp only [a1,a2,a3,w1,a4,decide_true,decide_false,cond_true,cond_false,Bool.not_false]
  rfl
theorem e5T:d8 prog d2N d2M:=g8 b7Y fun x hx =>
 b9 (φ:=c7f) (a9 e1E (a9 d8d b5)) d9 (kp:=b9V) (n:=0) func143 (c:=d3 c2Y) (by kernel_rfl) (d4l x.1 x.2.1 x.2.2 (0) hx) (b8 (by kernel_rfl))
theorem d4m (l:List UInt8) (k c:Int) (n:Nat) (h:a1E (l,k,c)):body prog b5g b9W n c2Z (X6 (l,k,c))=some ([oT (eB (a9a (l,k,c)).1),oT (.bool (a9a (l,k,c)).2)],[nul,nul,nul]):=by
 have hlm:=lm
 have hl:l.length≤LM:=h
 unfold X6 a9a gat
 dsimp only
 rw [d8y]
 by_cases h1:0≤c∧c≤(l.length:Int)∧0≤k∧k≤(l.length:Int) - c
 ·obtain ⟨a1,a2,a3,a4⟩:=h1
  have a5:k≤(l.length:Int):=by omega
  have a6:c≤(l.length:Int) - k:=by omega
  have w1:i64.wrap ((l.length:Int) - c)=(l.length:Int) - c:=by rw [IntKind.wrap_i64];omega
  have w2:i64.wrap ((l.length:Int) - k)=(l.length:Int) - k:=by rw [IntKind.wrap_i64];omega
  have w3:i64.wrap (k+c)=k+c:=by rw [IntKind.wrap_i64];omega
  have a7:k≤k+c:=by omega
  have a8:k+c≤(l.length:Int):=by omega
  have w4:(k+c).toNat - k.toNat=c.toNat:=by omega
  have hc:=d9u (m:=1) (row:=f5) (l:=l) (s:=k.toNat) (n:=c.toNat) (by omega)
  have hle:((l.drop k.toNat).take c.toNat).length=c.toNat:=by simp;omega
  try simp only [l7,c4k,hle] at hc
  injection hc with _ _ hc
  have c0:a0B ((l.drop k.toNat).take c.toNat):=by unfold a0B;rw [hle];omega
  have s1:c.toNat*1≤70368744177664:=by omega
  have s2:c.toNat≤70368744177664:=by omega
  have e1:n6 0 (i4 []) (n7 (atL f5 ((l.drop k.toNat).take c.toNat)))=atL f5 ((l.drop k.toNat).take c.toNat):=by rw [b5V,b0B]
  simp only [a1,a2,a3,a4,a5,a6,a7,a8,w1,w2,w3,w4,decide_true,cond_true,Bool.and_self,Bool.not_true,cond_false,f4,hc,i6,s1,s2,Nat.le_refl,e1]
  simp only [oT,l7,hle]
  rfl
 ·rw [c8q h1]
  have r0:T.arr 1 0 (i4 [])=T.arr 1 0 (atL f5 []):=by rw [a2h f5]
  by_cases a3:0≤k
  case neg =>
   simp only [a3,decide_false,cond_false,r0]
   rfl
  by_cases a1:0≤c
  case neg =>
   simp only [a1,a3,decide_true,decide_false,cond_true,cond_false,r0]
   rfl
  by_cases a5:k≤(l.length:Int)
  case neg =>
   simp only [a1,a3,a5,decide_true,decide_false,cond_true,cond_false,r0]
   rfl
  have w2:i64.wrap ((l.length:Int) - k)=(l.length:Int) - k:=by rw [IntKind.wrap_i64];omega
  have a6:¬ c≤(l.length:Int) - k:=fun e=>h1 ⟨a1,by omega,a3,by omega⟩
  simp only [a1,a3,a5,w2,a6,decide_true,decide_false,cond_true,cond_false,Bool.not_false,r0]
  rfl
theorem e5U:d8 prog d2P d2O:=g8 b7Z fun x hx =>
 b9 (φ:=b5g) (a9 c8j b5) d9 (kp:=b9W) (n:=0) func121 (c:=d3 c2Z) (by kernel_rfl) (d4m x.1 x.2.1 x.2.2 (0) hx) (b8 (by kernel_rfl))
end Go.Mach.F
namespace Go.Mach.F
open Go Go.Mach Go.Proofs.Tryz Go.IntKind
--=set_option maxRecDepth 100000
def thB (m:Ml) (r:Rf):List UInt8:=((m.rooms.getD (thg m r).1.toNat zRm).things.getD r.no.toNat ⟨[]⟩).b
def erd (m:Ml) (r:Rf) (k c:Int):List UInt8 × Int:=bif decide ((thg m r).2=0) then (bif (gat (thB m r) k c).2 then ((gat (thB m r) k c).1,0) else ([],7)) else ([],(thg m r).2)
def Q9 (x:Ml × Rf × Int × Int):Prop:=(x.1.rooms.length≤LM∧∀ y∈x.1.rooms,D7 y.kids∧D8 y.things∧m6 y.tags)
def H4 (x:Ml × Rf × Int × Int):List Arg:=[aR x.1.cs,aR x.2.1.cs,aI x.2.2.1,aI x.2.2.2]
def a1t (x:Ml × Rf × Int × Int):List UInt8 × Int:=erd x.1 x.2.1 x.2.2.1 x.2.2.2
noncomputable def b9X:Ent:=ent [] Q9 H4 (fun (x:List UInt8 × Int)=>([oT (eB x.1),oT (.int .i64 x.2)],[nul,nul,nul,nul])) a1t
theorem b0Q (x y:Ml × Rf × Int × Int) (h:H4 x=H4 y):x=y:=by
 obtain ⟨m1,r1,k1,c1⟩:=x
 obtain ⟨m2,r2,k2,c2⟩:=y
 simp only [H4,List.cons.injEq,and_true,true_and] at h
 obtain ⟨e0,e1,e2,e3⟩:=h
 obtain rfl:=Ml.cs_ext (j6 e0)
 obtain rfl:=Rf.cs_ext (j6 e1)
 obtain rfl:=v9 e2
 obtain rfl:=v9 e3
 rfl
theorem c9l {m:Ml} {r:Rf} {k:Int} {c:Int} (h:Q9 (m,r,k,c)):dom Q9 H4 [(wMl m),(wRf r),(0,false,[C.tr false (T.int i64 k)]),(0,false,[C.tr false (T.int i64 c)])]=true:=i3 (ea:=H4) (x:=(m,r,k,c)) h
theorem c9m {m:Ml} {r:Rf} {k:Int} {c:Int} (h:Q9 (m,r,k,c)):inv Q9 H4 [(wMl m),(wRf r),(0,false,[C.tr false (T.int i64 k)]),(0,false,[C.tr false (T.int i64 c)])]=(m,r,k,c):=g9 b0Q (x:=(m,r,k,c)) h
theorem d2Q (m:Ml) (r:Rf) (k:Int) (c:Int):a1t (m,r,k,c)=erd m r k c:=rfl
def b9Y:Nat:=87
noncomputable abbrev b2I:Func:=f87
def b0G:List (Nat × List Nat):=[(0,kq [4,6,9,11]),(1,kq [4,6,9,11,20,22]),(2,kq [4,6,9,11,20,22,42]),(3,[32,36]),(4,[48,52]),(5,[48,164]),(6,[32,36]),(7,[32,36])]
noncomputable abbrev e5V:Sems:=b3 [(d1T,d1S),(d2N,d2M)]
theorem c7g (m:Ml) (r:Rf) (k:Int) (c:Int) (n:Nat):body prog e5V b0G n b2I [aR m.cs,aR r.cs,aI k,aI c]=(d7 a2s a1n (b2k) [(wMl m),(wRf r)] fun (r1:Int × Int)=>bif r1.2 != 0 then some ([(false,[.tr true (.arr (1) (0) (fun x x_1=>T.hole))]),(false,[.tr true (T.int i64 r1.2)])],(nu 4)) else gd (decide (0≤r1.1)&&(r1.1.toNat.blt m.2.length&&true))<|gd ((atL Rm.cs m.2 r1.1.toNat 9).isArr&&(atL Rm.cs m.2 r1.1.toNat 9).wd.beq 1)<|gd (decide (0≤r.3)&&(r.3.toNat.blt (atL Rm.cs m.2 r1.1.toNat 9).ln&&true))<|gd (((atL Rm.cs m.2 r1.1.toNat 9).fn r.3.toNat 0).isArr&&((atL Rm.cs m.2 r1.1.toNat 9).fn r.3.toNat 0).wd.beq 1)<|d7 a1D X5 (a8Z) [(0,false,[C.tr false (T.arr 1 ((atL Rm.cs m.2 r1.1.toNat 9).fn r.3.toNat 0).ln ((atL Rm.cs m.2 r1.1.toNat 9).fn r.3.toNat 0).fn)]),(0,false,[C.tr false (T.int i64 k)]),(0,false,[C.tr false (T.int i64 c)])] fun (r2:List UInt8 × Bool)=>gl r2.1.length<|bif !r2.2 then some ([(false,[.tr true (.arr (1) (0) (fun x x_1=>T.hole))]),(false,[.tr true (T.int i64 7)])],(nu 4)) else gl r2.1.length<|gl r2.1.length<|some ([(false,[.tr true (.arr (1) (r2.1.length) (atL f5 r2.1))]),(false,[.tr true (T.int i64 0)])],(nu 4))):=by kernel_rfl
def R0 (x:Ml × Rf × Int × Int):Prop:=(x.1.rooms.length≤LM∧∀ y∈x.1.rooms,D7 y.kids∧D8 y.things∧m6 y.tags)
def H5 (x:Ml × Rf × Int × Int):List Arg:=[aR x.1.cs,aR x.2.1.cs,aI x.2.2.1,aI x.2.2.2]
def a1u (x:Ml × Rf × Int × Int):List UInt8 × Int:=erd x.1 x.2.1 x.2.2.1 x.2.2.2
noncomputable def b9Z:Ent:=ent [] R0 H5 (fun (x:List UInt8 × Int)=>([oT (eB x.1),oT (.int .i64 x.2)],[nul,nul,nul,nul])) a1u
theorem b0R (x y:Ml × Rf × Int × Int) (h:H5 x=H5 y):x=y:=by
 obtain ⟨m1,r1,k1,c1⟩:=x
 obtain ⟨m2,r2,k2,c2⟩:=y
 simp only [H5,List.cons.injEq,and_true,true_and] at h
 obtain ⟨e0,e1,e2,e3⟩:=h
 obtain rfl:=Ml.cs_ext (j6 e0)
 obtain rfl:=Rf.cs_ext (j6 e1)
 obtain rfl:=v9 e2
 obtain rfl:=v9 e3
 rfl
theorem c9n {m:Ml} {r:Rf} {k:Int} {c:Int} (h:R0 (m,r,k,c)):dom R0 H5 [(wMl m),(wRf r),(0,false,[C.tr false (T.int i64 k)]),(0,false,[C.tr false (T.int i64 c)])]=true:=i3 (ea:=H5) (x:=(m,r,k,c)) h
theorem c9o {m:Ml} {r:Rf} {k:Int} {c:Int} (h:R0 (m,r,k,c)):inv R0 H5 [(wMl m),(wRf r),(0,false,[C.tr false (T.int i64 k)]),(0,false,[C.tr false (T.int i64 c)])]=(m,r,k,c):=g9 b0R (x:=(m,r,k,c)) h
theorem d2R (m:Ml) (r:Rf) (k:Int) (c:Int):a1u (m,r,k,c)=erd m r k c:=rfl
def c0a:Nat:=73
noncomputable abbrev b2J:Func:=f73
def b0H:List (Nat × List Nat):=[(0,kq [4,6,9,11]),(1,kq [4,6,9,11,20,22]),(2,kq [4,6,9,11,20,22,42]),(3,[32,36]),(4,[48,52]),(5,[48,168]),(6,[32,36]),(7,[32,36])]
noncomputable abbrev e5W:Sems:=b3 [(d1W,d1V),(d2P,d2O)]
theorem c7h (m:Ml) (r:Rf) (k:Int) (c:Int) (n:Nat):body prog e5W b0H n b2J [aR m.cs,aR r.cs,aI k,aI c]=(d7 a2t a1o (b2l) [(wMl m),(wRf r)] fun (r1:Int × Int)=>bif r1.2 != 0 then some ([(false,[.tr true (.arr (1) (0) (i4 []))]),(false,[.tr true (T.int i64 r1.2)])],(nu 4)) else gd (decide (0≤r1.1)&&(r1.1.toNat.blt m.2.length&&true))<|gd ((atL Rm.cs m.2 r1.1.toNat 9).isArr&&(atL Rm.cs m.2 r1.1.toNat 9).wd.beq 1)<|gd (decide (0≤r.3)&&(r.3.toNat.blt (atL Rm.cs m.2 r1.1.toNat 9).ln&&true))<|gd (((atL Rm.cs m.2 r1.1.toNat 9).fn r.3.toNat 0).isArr&&((atL Rm.cs m.2 r1.1.toNat 9).fn r.3.toNat 0).wd.beq 1)<|d7 a1E X6 (a9a) [(0,false,[C.tr false (T.arr 1 ((atL Rm.cs m.2 r1.1.toNat 9).fn r.3.toNat 0).ln ((atL Rm.cs m.2 r1.1.toNat 9).fn r.3.toNat 0).fn)]),(0,false,[C.tr false (T.int i64 k)]),(0,false,[C.tr false (T.int i64 c)])] fun (r2:List UInt8 × Bool)=>gl r2.1.length<|bif !r2.2 then some ([(false,[.tr true (.arr (1) (0) (i4 []))]),(false,[.tr true (T.int i64 7)])],(nu 4)) else gl r2.1.length<|gl r2.1.length<|some ([(false,[.tr true (.arr (1) (r2.1.length) (atL f5 r2.1))]),(false,[.tr true (T.int i64 0)])],(nu 4))):=by kernel_rfl
end Go.Mach.F
namespace Go.Mach.F
open Go Go.Mach Go.Proofs.Tryz
theorem c0b {m:Ml} {r:Rf} (h:(thg m r).2=0):(0≤(thg m r).1∧(thg m r).1.toNat < m.rooms.length)∧0≤r.no∧r.no.toNat < (m.rooms.getD (thg m r).1.toNat zRm).things.length:=by
 unfold thg at h ⊢
 cases hr:c4J r with
 | false =>
  rw [hr] at h
  simp at h
 | true =>
  have hno:0≤r.no:=by
   simp only [c4J,Bool.and_eq_true,decide_eq_true_eq] at hr
   exact hr.2
  rw [hr] at h
  simp only [cond_true] at h ⊢
  by_cases e:rof m.rooms r.h < 0
  ·simp only [e,decide_true,cond_true] at h
   simp at h
  ·have e1:=a4S e
   simp only [e,decide_false,cond_false] at h ⊢
   cases hb:(decide ((m.rooms.getD (rof m.rooms r.h).toNat zRm).ep=r.ep)&&decide (r.no < ((m.rooms.getD (rof m.rooms r.h).toNat zRm).things.length:Int))) with
   | false =>
    rw [hb] at h
    simp at h
   | true =>
    simp only [cond_true]
    simp only [Bool.and_eq_true,decide_eq_true_eq] at hb
    exact ⟨e1,hno,by omega⟩
theorem a7V {l:List Sf} {j:Nat} (h:j < l.length):l[j]?=some (l.getD j ⟨[]⟩):=by
 rw [List.getD_eq_getElem?_getD,List.getElem?_eq_getElem h]
 rfl
theorem c5a (m:Ml) (r:Rf) (k c:Int) (n:Nat) (h:Q9 (m,r,k,c)):body prog e5V b0G n b2I (H4 (m,r,k,c))=some ([oT (eB (a1t (m,r,k,c)).1),oT (.int .i64 (a1t (m,r,k,c)).2)],[nul,nul,nul,nul]):=by
 have hlm:=lm
 obtain ⟨hl,hr⟩:=h
 dsimp only at hl hr
 have c0:a2s (m,r):=hl
 have r0:T.arr 1 0 (i4 [])=T.arr 1 0 (atL f5 []):=by rw [a2h f5]
 unfold H4 a1t erd
 dsimp only
 rw [c7g]
 try simp only [l7,Ml.cs,Rf.cs]
 rw [b4 (d5L c0) (d5M c0)]
 simp only [e1u,w7]
 by_cases e:(thg m r).2=0
 case neg =>
  simp only [e,decide_false,Bool.not_false,cond_true,cond_false,r0]
  rfl
 have hk:=c0b e
 have hx:=A2 hk.1.2
 have ht:=a7V hk.2.2
 have hy:=hr _ (List.mem_of_getElem? hx)
 have c1:a1D (thB m r,k,c):=hy.2.1.2 _ (List.mem_of_getElem? ht)
 have e0:=hk.1.1
 have e1:=hk.1.2
 have e2:=hk.2.1
 have e3:=hk.2.2
 obtain ⟨x,hxe⟩:∃ x,x=m.rooms.getD (thg m r).1.toNat zRm:=⟨_,rfl⟩
 obtain ⟨s,hse⟩:∃ s,s=x.things.getD r.no.toNat ⟨[]⟩:=⟨_,rfl⟩
 have hb:thB m r=s.b:=by rw [hse,hxe];rfl
 rw [← hxe] at hx ht e3
 rw [← hse] at ht
 rw [hb] at c1 ⊢
 simp only [f4,e,e0,e1,e2,e3,Bool.not_true,cond_false,d6 hx,Rm.cs,d6 ht,Sf.cs,l7]
 rw [b4 (e2z c1) (e2A c1)]
 simp only [e5R,f4,i6,Nat.le_refl]
 cases (gat s.b k c).2 with
 | false =>
  simp only [Bool.not_false,cond_true,cond_false,r0]
  rfl
 | true =>
  simp only [Bool.not_true,cond_true,cond_false]
  rfl
theorem d2S:d8 prog b9Y b9X:=g8 b0Q fun x hx =>
 b9 (φ:=e5V) (a9 e1x (a9 e5T b5)) d9 (kp:=b0G) (n:=0) func87 (c:=d3 b2I) (by kernel_rfl) (c5a x.1 x.2.1 x.2.2.1 x.2.2.2 (0) hx) (b8 (by kernel_rfl))
theorem c5b (m:Ml) (r:Rf) (k c:Int) (n:Nat) (h:R0 (m,r,k,c)):body prog e5W b0H n b2J (H5 (m,r,k,c))=some ([oT (eB (a1u (m,r,k,c)).1),oT (.int .i64 (a1u (m,r,k,c)).2)],[nul,nul,nul,nul]):=by
 have hlm:=lm
 obtain ⟨hl,hr⟩:=h
 dsimp only at hl hr
 have c0:a2t (m,r):=hl
 have r0:T.arr 1 0 (i4 [])=T.arr 1 0 (atL f5 []):=by rw [a2h f5]
 unfold H5 a1u erd
 dsimp only
 rw [c7h]
 try simp only [l7,Ml.cs,Rf.cs]
 rw [b4 (d5N c0) (d5O c0)]
 simp only [e1v,w7]
 by_cases e:(thg m r).2=0
 case neg =>
  simp only [e,decide_false,Bool.not_false,cond_true,cond_false,r0]
  rfl
 have hk:=c0b e
 have hx:=A2 hk.1.2
 have ht:=a7V hk.2.2
 have hy:=hr _ (List.mem_of_getElem? hx)
 have c1:a1E (thB m r,k,c):=hy.2.1.2 _ (List.mem_of_getElem? ht)
 have e0:=hk.1.1
 have e1:=hk.1.2
 have e2:=hk.2.1
 have e3:=hk.2.2
 obtain ⟨x,hxe⟩:∃ x,x=m.rooms.getD (thg m r).1.toNat zRm:=⟨_,rfl⟩
 obtain ⟨s,hse⟩:∃ s,s=x.things.getD r.no.toNat ⟨[]⟩:=⟨_,rfl⟩
 have hb:thB m r=s.b:=by rw [hse,hxe];rfl
 rw [← hxe] at hx ht e3
 rw [← hse] at ht
 rw [hb] at c1 ⊢
 simp only [f4,e,e0,e1,e2,e3,Bool.not_true,cond_false,d6 hx,Rm.cs,d6 ht,Sf.cs,l7]
 rw [b4 (e2B c1) (e2C c1)]
 simp only [e5S,f4,i6,Nat.le_refl]
 cases (gat s.b k c).2 with
 | false =>
  simp only [Bool.not_false,cond_true,cond_false,r0]
  rfl
 | true =>
  simp only [Bool.not_true,cond_true,cond_false]
  rfl
theorem d2T:d8 prog c0a b9Z:=g8 b0R fun x hx =>
 b9 (φ:=e5W) (a9 e1z (a9 e5U b5)) d9 (kp:=b0H) (n:=0) func73 (c:=d3 b2J) (by kernel_rfl) (c5b x.1 x.2.1 x.2.2.1 x.2.2.2 (0) hx) (b8 (by kernel_rfl))
end Go.Mach.F
namespace Go.Mach.F
open Go Go.Mach Go.Proofs.Tryz Go.IntKind
--=set_option maxRecDepth 100000
def pua (l:List UInt8) (k:Int) (s:List UInt8):List UInt8 × Bool:=bif decide (0≤k)&&decide (k+(s.length:Int)≤(l.length:Int)) then (l.take k.toNat ++ (s ++ l.drop (k.toNat+s.length)),true) else (l,false)
def a1F (x:List UInt8 × Int × List UInt8):Prop:=x.1.length≤LM∧x.2.2.length≤LM
def X7 (x:List UInt8 × Int × List UInt8):List Arg:=[aT (eB x.1),aI x.2.1,aT (eB x.2.2)]
def a9b (x:List UInt8 × Int × List UInt8):List UInt8 × Bool:=pua x.1 x.2.1 x.2.2
noncomputable def d2U:Ent:=ent [] a1F X7 (fun (x:List UInt8 × Bool)=>([oT (eB x.1),oT (.bool x.2)],[nul,nul,nul])) a9b
theorem b8a (x y:List UInt8 × Int × List UInt8) (h:X7 x=X7 y):x=y:=by
 obtain ⟨l1,k1,s1⟩:=x
 obtain ⟨l2,k2,s2⟩:=y
 simp only [X7,List.cons.injEq,and_true,true_and] at h
 obtain ⟨e0,e1,e2⟩:=h
 obtain rfl:=P1 (K7 e0)
 obtain rfl:=v9 e1
 obtain rfl:=P1 (K7 e2)
 rfl
theorem e2D {l:List UInt8} {k:Int} {s:List UInt8} (h:a1F (l,k,s)):dom a1F X7 [(0,false,[C.tr false (T.arr 1 l.length (atL f5 l))]),(0,false,[C.tr false (T.int i64 k)]),(0,false,[C.tr false (T.arr 1 s.length (atL f5 s))])]=true:=i3 (ea:=X7) (x:=(l,k,s)) h
theorem e2E {l:List UInt8} {k:Int} {s:List UInt8} (h:a1F (l,k,s)):inv a1F X7 [(0,false,[C.tr false (T.arr 1 l.length (atL f5 l))]),(0,false,[C.tr false (T.int i64 k)]),(0,false,[C.tr false (T.arr 1 s.length (atL f5 s))])]=(l,k,s):=g9 b8a (x:=(l,k,s)) h
theorem e5X (l:List UInt8) (k:Int) (s:List UInt8):a9b (l,k,s)=pua l k s:=rfl
def d2V:Nat:=144
noncomputable abbrev c3a:Func:=f144
def c0c:List (Nat × List Nat):=[(0,[0,4,8]),(1,[0,4,8,32]),(2,[4,8,32,68]),(3,[24,28]),(4,[32]),(5,[24,28])]
theorem d8z (l:List UInt8) (k:Int) (s:List UInt8) (n:Nat):body prog c7f c0c n c3a [aT (eB l),aI k,aT (eB s)]=(d7 a0B a4Q (c4C) [(0,false,[C.tr false (T.arr 1 l.length (atL f5 l))])] fun (r1:List UInt8)=>gl r1.length<|bif decide ((↑s.length:Int)≤(↑l.length:Int)) then bif decide (0≤k) then bif !decide (k≤i64.wrap ((↑l.length:Int) - (↑s.length:Int))) then gl r1.length<|gl r1.length<|some ([(false,[.tr true (.arr (1) (r1.length) (atL f5 r1))]),(false,[.tr true (T.bool false)])],(nu 3)) else gd (decide (0≤k)&&(decide (k≤(↑r1.length:Int))&&decide ((↑r1.length:Int)≤(↑r1.length:Int))))<|bif s.length.ble ((↑r1.length:Int).toNat - k.toNat) then gd ((0+k.toNat+s.length).ble r1.length)<|gl r1.length<|gl r1.length<|some ([(false,[.tr true (.arr (1) (r1.length) (Z8 1 (0+k.toNat) s.length (fun j x=>(atL f5 s (j - (0+k.toNat)) 0).plain) (atL f5 r1)))]),(false,[.tr true (T.bool true)])],(nu 3)) else gd ((0+k.toNat+((↑r1.length:Int).toNat - k.toNat)).ble r1.length)<|gl r1.length<|gl r1.length<|some ([(false,[.tr true (.arr (1) (r1.length) (Z8 1 (0+k.toNat) ((↑r1.length:Int).toNat - k.toNat) (fun j x=>(atL f5 s (j - (0+k.toNat)) 0).plain) (atL f5 r1)))]),(false,[.tr true (T.bool true)])],(nu 3)) else gl r1.length<|gl r1.length<|some ([(false,[.tr true (.arr (1) (r1.length) (atL f5 r1))]),(false,[.tr true (T.bool false)])],(nu 3)) else gl r1.length<|gl r1.length<|some ([(false,[.tr true (.arr (1) (r1.length) (atL f5 r1))]),(false,[.tr true (T.bool false)])],(nu 3))):=by kernel_rfl
def a1G (x:List UInt8 × Int × List UInt8):Prop:=x.1.length≤LM∧x.2.2.length≤LM
def X8 (x:List UInt8 × Int × List UInt8):List Arg:=[aT (eB x.1),aI x.2.1,aT (eB x.2.2)]
def a9c (x:List UInt8 × Int × List UInt8):List UInt8 × Bool:=pua x.1 x.2.1 x.2.2
noncomputable def d2W:Ent:=ent [] a1G X8 (fun (x:List UInt8 × Bool)=>([oT (eB x.1),oT (.bool x.2)],[nul,nul,nul])) a9c
theorem b8b (x y:List UInt8 × Int × List UInt8) (h:X8 x=X8 y):x=y:=by
 obtain ⟨l1,k1,s1⟩:=x
 obtain ⟨l2,k2,s2⟩:=y
 simp only [X8,List.cons.injEq,and_true,true_and] at h
 obtain ⟨e0,e1,e2⟩:=h
 obtain rfl:=P1 (K7 e0)
 obtain rfl:=v9 e1
 obtain rfl:=P1 (K7 e2)
 rfl
theorem e2F {l:List UInt8} {k:Int} {s:List UInt8} (h:a1G (l,k,s)):dom a1G X8 [(0,false,[C.tr false (T.arr 1 l.length (atL f5 l))]),(0,false,[C.tr false (T.int i64 k)]),(0,false,[C.tr false (T.arr 1 s.length (atL f5 s))])]=true:=i3 (ea:=X8) (x:=(l,k,s)) h
theorem e2G {l:List UInt8} {k:Int} {s:List UInt8} (h:a1G (l,k,s)):inv a1G X8 [(0,false,[C.tr false (T.arr 1 l.length (atL f5 l))]),(0,false,[C.tr false (T.int i64 k)]),(0,false,[C.tr false (T.arr 1 s.length (atL f5 s))])]=(l,k,s):=g9 b8b (x:=(l,k,s)) h
theorem e5Y (l:List UInt8) (k:Int) (s:List UInt8):a9c (l,k,s)=pua l k s:=rfl
def d2X:Nat:=122
noncomputable abbrev a5U:Func:=f122
def a3D:List (Nat × List Nat):=[(0,[0,4,8]),(1,[0,4,8,32]),(2,[4,8,32,72]),(3,[24,28]),(4,[4,8,32,36]),(5,[4,8,32,36,92]),(6,[4,8,32,36]),(7,[4,8,32,36]),(8,[24,28])]
def c8r:List Nat:=[0,0,0]
def a2D (l:List UInt8) (k:Int) (s:List UInt8) (nx32:Nat) (fx32:Nat→Nat→T) (x36:Int):St:=[vi 1 k,(8,⟨z0,[(false,[.tr false (.arr (1) (s.length) (atL f5 s))])]⟩),va 8 (1) (nx32) (fx32),vi 9 x36]
def b0I (l:List UInt8) (k:Int) (s:List UInt8) (nx32:Nat) (fx32:Nat→Nat→T) (x36:Int):St:=[vi 1 k,(8,⟨z0,[(false,[.tr false (.arr (1) (s.length) (atL f5 s))])]⟩),va 8 (1) (nx32) (fx32),vi 9 x36,ve 92]
theorem b6k (l:List UInt8) (k:Int) (s:List UInt8) (nx32:Nat) (fx32:Nat→Nat→T) (x36:Int) (n:Nat) (K:Ex→St→Res):i8 prog b5g a3D a5U [1,1,1,0,1,0] n (a2D l k s nx32 fx32 x36) K=(bif decide (x36 < (↑s.length:Int)) then gd (decide (0≤x36)&&(x36.toNat.blt s.length&&true))<|gd (T.isI IntKind.u8 (atL f5 s x36.toNat 0))<|gd (decide (0≤i64.wrap (k+x36))&&((i64.wrap (k+x36)).toNat.blt nx32&&true))<|gd ((0+(i64.wrap (k+x36)).toNat).blt nx32&&true&&true)<|K .normal (a2D l k s (nx32) (b7 (0+(i64.wrap (k+x36)).toNat) 0 (T.int IntKind.u8 (atL f5 s x36.toNat 0).toI) fx32) (i64.wrap (x36+1))) else K (.exit 0) (b0I l k s nx32 fx32 x36)):=by kernel_rfl
theorem c5c (l:List UInt8) (k:Int) (s:List UInt8) (nx32:Nat) (fx32:Nat→Nat→T) (x36:Int) (n:Nat):d5 prog b5g a3D a5U c8r [1,1,1,0,1,0] [] n (.exit 0) (b0I l k s nx32 fx32 x36)=(gl nx32<|gl nx32<|some ([(false,[.tr true (.arr (1) (nx32) (fx32))]),(false,[.tr true (T.bool true)])],(nu 3))):=by kernel_rfl
theorem d8A (l:List UInt8) (k:Int) (s:List UInt8) (n:Nat):body prog b5g a3D n a5U [aT (eB l),aI k,aT (eB s)]=(gd (((0+l.length)*1).ble 70368744177664&&(0+l.length).ble 70368744177664)<|gd ((0+l.length).ble (0+l.length)&&true)<|bif decide (0≤k) then bif decide (k≤(↑l.length:Int)) then bif !decide ((↑s.length:Int)≤i64.wrap ((↑l.length:Int) - k)) then gd ((0+l.length).ble (0+l.length)&&true)<|gd ((0+l.length).ble (0+l.length)&&true)<|some ([(false,[.tr true (.arr (1) (0+l.length) (n6 0 (i4 []) (n7 (atL f5 l))))]),(false,[.tr true (T.bool false)])],(nu 3)) else j5 prog b5g a3D a5U [1,1,1,0,1,0] n n (a2D l k s (0+l.length) (n6 0 (i4 []) (n7 (atL f5 l))) (0)) (d5 prog b5g a3D a5U c8r [1,1,1,0,1,0] [] n) else gd ((0+l.length).ble (0+l.length)&&true)<|gd ((0+l.length).ble (0+l.length)&&true)<|some ([(false,[.tr true (.arr (1) (0+l.length) (n6 0 (i4 []) (n7 (atL f5 l))))]),(false,[.tr true (T.bool false)])],(nu 3)) else gd ((0+l.length).ble (0+l.length)&&true)<|gd ((0+l.length).ble (0+l.length)&&true)<|some ([(false,[.tr true (.arr (1) (0+l.length) (n6 0 (i4 []) (n7 (atL f5 l))))]),(false,[.tr true (T.bool false)])],(nu 3))):=by kernel_rfl
end Go.Mach.F
