/- Lemmas and definitions of the proof (Co Ra Rb Rc Rd Rj Vc Vd Va Vb Rk Rl Wa Xa Tb Vx Ve Vf Qa Qb Ea Bj Bk Bl Eb). Conditions: none. -/
import Derived.Test.YtoeibgpehaaidaaGreatZ4
set_option linter.all false
namespace Go.Mach.F
open Go Go.Mach Go.Proofs.Tryz
--=set_option maxRecDepth 100000
theorem a4n (l:List Int):n7 (atL b6 l)=atL b6 l:=by
 funext j k
 unfold n7 atL
 cases l[j]? with
 | none=>rfl
 | some x=>cases k <;> rfl
theorem b5V (l:List UInt8):n7 (atL f5 l)=atL f5 l:=by
 funext j k
 unfold n7 atL
 cases l[j]? with
 | none=>rfl
 | some x=>cases k <;> rfl
theorem b2g (l:List Hd):n7 (atL Hd.cs l)=atL Hd.cs l:=by
 funext j k
 unfold n7 atL
 cases l[j]? with
 | none=>rfl
 | some x=>rcases k with _ | _ | k <;> rfl
theorem b0B (f g:Nat→Nat→T):n6 0 f g=g:=by
 funext j k
 unfold n6
 rfl
def d8a:Nat:=128
def a0B (l:List UInt8):Prop:=l.length≤LM
def a4Q (l:List UInt8):List Arg:=[aT (eB l)]
def c4C (l:List UInt8):List UInt8:=l
noncomputable def d8b:Ent:=ent [] a0B a4Q (fun l=>erT 1 (eB l)) c4C
theorem c4D (x y:List UInt8) (h:a4Q x=a4Q y):x=y:=by
 simp only [a4Q,aT,List.cons.injEq,Prod.mk.injEq,true_and,and_true,C.tr.injEq] at h
 exact P1 h
theorem d1D {l:List UInt8} (h:a0B l):dom a0B a4Q [(0,false,[C.tr false (T.arr 1 l.length (atL f5 l))])]=true:=i3 (ea:=a4Q) (x:=l) h
theorem d1E {l:List UInt8} (h:a0B l):inv a0B a4Q [(0,false,[C.tr false (T.arr 1 l.length (atL f5 l))])]=l:=g9 c4D (x:=l) h
theorem d8c (l:List UInt8):c4C l=l:=rfl
theorem f1y (l:List UInt8):a9w prog (b3 []) [(0,[0]),(1,[0,16]),(2,[8]),(3,[8])] 0 f128 (sub (d3 f128) [1,1]) [aT (eB l)]=(
 gd (((0+l.length)*1).ble 70368744177664&&(0+l.length).ble 70368744177664) <|
 gd ((0+l.length).ble (0+l.length)&&true) <|
 gd ((0+l.length).ble (0+l.length)&&true) <|
 some ([(false,[.tr true (.arr (1) (0+l.length) (n6 0 (fun j k=>T.hole) (n7 (atL f5 l))))])],[(false,[])])):=by kernel_rfl
theorem d8d:d8 prog d8a d8b:=g8 c4D fun l hl=>by
 have hlm:=lm
 have hl':l.length≤LM:=hl
 have hb:=f1y l
 simp only [Nat.zero_add,i6,Nat.le_refl,decide_true,Bool.and_true,gdt,b0B,b5V] at hb
 rw [decide_eq_true (show l.length*1≤70368744177664 by omega),decide_eq_true (show l.length≤70368744177664 by omega)] at hb
 simp only [Bool.and_true,gdt] at hb
 refine b4P (φ:=b3 []) b5 d9 (kp:=[(0,[0]),(1,[0,16]),(2,[8]),(3,[8])]) (n:=0) func128 (b8 (by kernel_rfl)) (hc:=rfl) rfl rfl rfl (fun a w K Q h=>m4 rfl h) (fun a w K Q h=>m4 rfl h) (fun a w K Q Ad k c he h=>?_) (by decide) (fun hk=>?_) hb
 ·cases Ad with
  | none=>exact m4 (v:=.bool true) (w':=w) (by simp only [execOp,he];kernel_rfl) h
  | some ad=>exact m4 (v:=.bool false) (w':=w) (by simp only [execOp,he];kernel_rfl) h
 ·have:l=[]:=List.length_eq_zero_iff.1 hk
  subst this
  have ha:a9w prog (b3 []) [(0,[0]),(1,[0,16]),(2,[8]),(3,[8])] 0 f128 (sub (d3 f128) [1,0,1,0]) [aT (eB [])]=some ([(false,[.tr true (.arr 1 0 fun _ _=>.hole)])],[(false,[])]):=by kernel_rfl
  exact ha
def e6Y:Nat:=129
def b2h (l:List Hd):Prop:=l.length≤LM
def a9Z (l:List Hd):List Arg:=[aT (eL 2 Hd.cs l)]
def d8e (l:List Hd):List Hd:=l
noncomputable def e6Z:Ent:=ent [] b2h a9Z (fun l=>erT 1 (eL 2 Hd.cs l)) d8e
theorem c4E (x y:List Hd) (h:a9Z x=a9Z y):x=y:=by
 simp only [a9Z,aT,List.cons.injEq,Prod.mk.injEq,true_and,and_true,C.tr.injEq] at h
 exact m8 Hd.cs_inj h
theorem f1z {l:List Hd} (h:b2h l):dom b2h a9Z [(0,false,[C.tr false (T.arr 2 l.length (atL Hd.cs l))])]=true:=i3 (ea:=a9Z) (x:=l) h
theorem f1A {l:List Hd} (h:b2h l):inv b2h a9Z [(0,false,[C.tr false (T.arr 2 l.length (atL Hd.cs l))])]=l:=g9 c4E (x:=l) h
theorem f2N (l:List Hd):d8e l=l:=rfl
theorem f1B (l:List Hd):a9w prog (b3 []) [(0,[0]),(1,[0,16]),(2,[8]),(3,[8])] 0 f129 (sub (d3 f129) [1,1]) [aT (eL 2 Hd.cs l)]=(
 gd (((0+l.length)*16).ble 70368744177664&&(0+l.length).ble 70368744177664) <|
 gd ((0+l.length).ble (0+l.length)&&true) <|
 gd ((0+l.length).ble (0+l.length)&&true) <|
 some ([(false,[.tr true (.arr (2) (0+l.length) (n6 0 (fun j k=>T.hole) (n7 (atL Hd.cs l))))])],[(false,[])])):=by kernel_rfl
theorem f2O:d8 prog e6Y e6Z:=g8 c4E fun l hl=>by
 have hlm:=lm
 have hl':l.length≤LM:=hl
 have hb:=f1B l
 simp only [Nat.zero_add,i6,Nat.le_refl,decide_true,Bool.and_true,gdt,b0B,b2g] at hb
 rw [decide_eq_true (show l.length*16≤70368744177664 by omega),decide_eq_true (show l.length≤70368744177664 by omega)] at hb
 simp only [Bool.and_true,gdt] at hb
 refine b4P (φ:=b3 []) b5 d9 (kp:=[(0,[0]),(1,[0,16]),(2,[8]),(3,[8])]) (n:=0) func129 (b8 (by kernel_rfl)) (hc:=rfl) rfl rfl rfl (fun a w K Q h=>m4 rfl h) (fun a w K Q h=>m4 rfl h) (fun a w K Q Ad k c he h=>?_) (by decide) (fun hk=>?_) hb
 ·cases Ad with
  | none=>exact m4 (v:=.bool true) (w':=w) (by simp only [execOp,he];kernel_rfl) h
  | some ad=>exact m4 (v:=.bool false) (w':=w) (by simp only [execOp,he];kernel_rfl) h
 ·have:l=[]:=List.length_eq_zero_iff.1 hk
  subst this
  have ha:a9w prog (b3 []) [(0,[0]),(1,[0,16]),(2,[8]),(3,[8])] 0 f129 (sub (d3 f129) [1,0,1,0]) [aT (eL 2 Hd.cs [])]=some ([(false,[.tr true (.arr 2 0 fun _ _=>.hole)])],[(false,[])]):=by kernel_rfl
  exact ha
def c9D:Nat:=82
def a3p (l:List Int):Prop:=l.length≤LM
def a4R (l:List Int):List Arg:=[aT (eI l)]
def c4F (l:List Int):List Int:=l
noncomputable def c9E:Ent:=ent [] a3p a4R (fun l=>erT 1 (eI l)) c4F
theorem c4G (x y:List Int) (h:a4R x=a4R y):x=y:=by
 simp only [a4R,aT,List.cons.injEq,Prod.mk.injEq,true_and,and_true,C.tr.injEq] at h
 exact J3 h
theorem d1F {l:List Int} (h:a3p l):dom a3p a4R [(0,false,[C.tr false (T.arr 1 l.length (atL b6 l))])]=true:=i3 (ea:=a4R) (x:=l) h
theorem d1G {l:List Int} (h:a3p l):inv a3p a4R [(0,false,[C.tr false (T.arr 1 l.length (atL b6 l))])]=l:=g9 c4G (x:=l) h
theorem d8f (l:List Int):c4F l=l:=rfl
theorem f1C (l:List Int):a9w prog (b3 []) [(0,[0]),(1,[0,16]),(2,[8]),(3,[8])] 0 f82 (sub (d3 f82) [1,1]) [aT (eI l)]=(
 gd (((0+l.length)*8).ble 70368744177664&&(0+l.length).ble 70368744177664) <|
 gd ((0+l.length).ble (0+l.length)&&true) <|
 gd ((0+l.length).ble (0+l.length)&&true) <|
 some ([(false,[.tr true (.arr (1) (0+l.length) (n6 0 (fun j k=>T.hole) (n7 (atL b6 l))))])],[(false,[])])):=by kernel_rfl
theorem d8g:d8 prog c9D c9E:=g8 c4G fun l hl=>by
 have hlm:=lm
 have hl':l.length≤LM:=hl
 have hb:=f1C l
 simp only [Nat.zero_add,i6,Nat.le_refl,decide_true,Bool.and_true,gdt,b0B,a4n] at hb
 rw [decide_eq_true (show l.length*8≤70368744177664 by omega),decide_eq_true (show l.length≤70368744177664 by omega)] at hb
 simp only [Bool.and_true,gdt] at hb
 refine b4P (φ:=b3 []) b5 d9 (kp:=[(0,[0]),(1,[0,16]),(2,[8]),(3,[8])]) (n:=0) func82 (b8 (by kernel_rfl)) (hc:=rfl) rfl rfl rfl (fun a w K Q h=>m4 rfl h) (fun a w K Q h=>m4 rfl h) (fun a w K Q Ad k c he h=>?_) (by decide) (fun hk=>?_) hb
 ·cases Ad with
  | none=>exact m4 (v:=.bool true) (w':=w) (by simp only [execOp,he];kernel_rfl) h
  | some ad=>exact m4 (v:=.bool false) (w':=w) (by simp only [execOp,he];kernel_rfl) h
 ·have:l=[]:=List.length_eq_zero_iff.1 hk
  subst this
  have ha:a9w prog (b3 []) [(0,[0]),(1,[0,16]),(2,[8]),(3,[8])] 0 f82 (sub (d3 f82) [1,0,1,0]) [aT (eI [])]=some ([(false,[.tr true (.arr 1 0 fun _ _=>.hole)])],[(false,[])]):=by kernel_rfl
  exact ha
end Go.Mach.F
section
set_option maxRecDepth 100000
set_option maxHeartbeats 40000000
namespace Go.Mach.F
open Go Go.Mach Go.Proofs.Tryz Go.IntKind
--=set_option maxRecDepth 100000
def a3q (x:Rm):Prop:=D7 x.kids∧D8 x.things∧m6 x.tags
def a0O (x:Rm):List Arg:=[aR x.cs]
def b5W (x:Rm):Rm:=x
noncomputable def d5H:Ent:=ent [] a3q a0O (fun r=>erR 1 r.cs) b5W
theorem b9v (x y:Rm) (h:a0O x=a0O y):x=y:=by
 simp only [a0O,List.cons.injEq,and_true,true_and] at h
 exact Rm.cs_ext (j6 h)
theorem e4Y {r:Rm} (h:a3q r):dom a3q a0O [(wRm r)]=true:=i3 (ea:=a0O) (x:=r) h
theorem e4Z {r:Rm} (h:a3q r):inv a3q a0O [(wRm r)]=r:=g9 b9v (x:=r) h
theorem e8X (r:Rm):b5W r=r:=rfl
def d5I:Nat:=83
noncomputable abbrev a8L:Func:=f83
def a5E:List (Nat × List Nat):=[(0,kq [3,5,64]),(1,kq [3,5,6,64]),(2,kq [3,5,6,14,16,18,20,64]),(3,kq [3,5,6,14,16,18,20,22,64]),(4,kq [3,5,6,11,14,16,18,20,24,26,64]),(5,kq [3,5,6,14,16,18,20,64]),(6,kq [3,5,6,14,16,18,20,64]),(7,kq [3,5,64]),(8,kq [3,5,64])]
def d1H:List Nat:=[0]
def a4o (r:Rm) (nx12:Nat) (fx12:Nat→Nat→T) (x40:Int):St:=[vp 1 11,vb 1 [ci r.h.1,ci r.h.2,ci r.up.1,ci r.up.2,.tr false (eL 2 Hd.cs r.3),ci r.4,ci r.5,co r.6,ci r.7,.tr false (eL 1 Sf.cs r.8),.tr false (eL 1 b6 r.9)],vp 2 11,vb 2 [ci 0,ci 0,ci 0,ci 0,ca (2) (0) (fun x x_1=>T.hole),ci 0,ci 0,co false,ci 0,ca (1) (0) (fun x x_1=>T.hole),ca (1) (0) (fun x x_1=>T.hole)],va 3 (1) (nx12) (fx12),(28,⟨z0,[(false,[(C.pt (Pt.ptr 5 0 [] 11 0 9))])]⟩),(32,⟨z0,[(false,[.tr false (eL 1 Sf.cs r.8)])]⟩),vi 9 (↑r.8.length:Int),vi 10 x40]
def b2i (r:Rm) (nx12:Nat) (fx12:Nat→Nat→T) (x40:Int):St:=[vp 1 11,vb 1 [ci r.h.1,ci r.h.2,ci r.up.1,ci r.up.2,.tr false (eL 2 Hd.cs r.3),ci r.4,ci r.5,co r.6,ci r.7,.tr false (eL 1 Sf.cs r.8),.tr false (eL 1 b6 r.9)],vp 2 11,vb 2 [ci 0,ci 0,ci 0,ci 0,ca (2) (0) (fun x x_1=>T.hole),ci 0,ci 0,co false,ci 0,ca (1) (0) (fun x x_1=>T.hole),ca (1) (0) (fun x x_1=>T.hole)],va 3 (1) (nx12) (fx12),(28,⟨z0,[(false,[(C.pt (Pt.ptr 5 0 [] 11 0 9))])]⟩),(32,⟨z0,[(false,[.tr false (eL 1 Sf.cs r.8)])]⟩),vi 9 (↑r.8.length:Int),vi 10 x40,ve 44]
noncomputable abbrev c2O:Sems:=b3 [(d8a,d8b),(e6Y,e6Z),(c9D,c9E)]
theorem b7O (r:Rm) (nx12:Nat) (fx12:Nat→Nat→T) (x40:Int) (n:Nat) (K:Ex→St→Res):i8 prog c2O a5E a8L [1,1,0,1,0] n (a4o r nx12 fx12 x40) K=(bif decide (x40 < (↑r.8.length:Int)) then gd (decide (0≤x40)&&(x40.toNat.blt r.8.length&&true))<|gd ((atL Sf.cs r.8 x40.toNat 0).isArr&&(atL Sf.cs r.8 x40.toNat 0).wd.beq 1)<|d7 a0B a4Q (c4C) [(0,false,[C.tr false (T.arr 1 (atL Sf.cs r.8 x40.toNat 0).ln (atL Sf.cs r.8 x40.toNat 0).fn)])] fun (r1:List UInt8)=>gl r1.length<|gl r1.length<|gl nx12<|gd (((nx12+1)*24).ble 70368744177664&&(nx12+1).ble 70368744177664)<|gd ((nx12+1).ble (nx12+1)&&true)<|K .normal (a4o r (nx12+1) (n6 nx12 fx12 (i4 [[T.arr 1 r1.length (atL f5 r1)]])) (i64.wrap (x40+1))) else K (.exit 0) (b2i r nx12 fx12 x40)):=by kernel_rfl
theorem c6A (r:Rm) (nx12:Nat) (fx12:Nat→Nat→T) (x40:Int) (n:Nat):d5 prog c2O a5E a8L d1H [1,1,0,1,0] [] n (.exit 0) (b2i r nx12 fx12 x40)=(d7 b2h a9Z (d8e) [(0,false,[C.tr false (eL 2 Hd.cs r.3)])] fun (r2:List Hd)=>d7 a3p a4R (c4F) [(0,false,[C.tr false (eL 1 b6 r.9)])] fun (r3:List Int)=>gl r2.length<|gl nx12<|gl r3.length<|gl r2.length<|gl nx12<|gl r3.length<|gl r2.length<|gl nx12<|gl r3.length<|some ([(true,[.tr true (T.int i64 r.h.1),.tr true (T.int i64 r.h.2),.tr true (T.int i64 r.up.1),.tr true (T.int i64 r.up.2),.tr true (.arr (2) (r2.length) ((eL 2 Hd.cs r2).fn)),.tr true (T.int i64 r.4),.tr true (T.int i64 r.5),.tr true (T.bool r.6),.tr true (T.int i64 r.7),.tr true (.arr (1) (nx12) (fx12)),.tr true (.arr (1) (r3.length) (atL b6 r3))])],[(false,[])])):=by kernel_rfl
theorem e1e (r:Rm) (n:Nat):body prog c2O a5E n a8L [aR r.cs]=(j5 prog c2O a5E a8L [1,1,0,1,0] n n (a4o r (0) (i4 []) (0)) (d5 prog c2O a5E a8L d1H [1,1,0,1,0] [] n)):=by kernel_rfl
def a0P (x:Rm):Prop:=D7 x.kids∧D8 x.things∧m6 x.tags
def Z1 (x:Rm):List Arg:=[aR x.cs]
def b1p (x:Rm):Rm:=x
noncomputable def a4p:Ent:=ent [] a0P Z1 (fun r=>erR 1 r.cs) b1p
theorem b9w (x y:Rm) (h:Z1 x=Z1 y):x=y:=by
 simp only [Z1,List.cons.injEq,and_true,true_and] at h
 exact Rm.cs_ext (j6 h)
theorem d1I {r:Rm} (h:a0P r):dom a0P Z1 [(wRm r)]=true:=i3 (ea:=Z1) (x:=r) h
theorem d1J {r:Rm} (h:a0P r):inv a0P Z1 [(wRm r)]=r:=g9 b9w (x:=r) h
theorem d5J (r:Rm):b1p r=r:=rfl
def a4q:Nat:=70
noncomputable abbrev a8M:Func:=f70
def a5F:List (Nat × List Nat):=[(0,kq [3,5,7,10,78]),(1,kq [3,5,7,10,78]),(2,kq [3,5,7,10,78]),(3,kq [3,5,7,10,78]),(4,kq [3,5,7,10,78]),(5,kq [3,5,7,8,10,78]),(6,kq [3,5,7,8,10,44,78]),(7,kq [3,5,7,8,10,78]),(8,kq [3,5,7,8,10,78]),(9,kq [3,5,7,10,78])]
def d1K:List Nat:=[0]
def a4r (r:Rm) (nx13_9:Nat) (fx13_9:Nat→Nat→T) (x16:Int):St:=[vp 1 11,vb 1 [ci r.h.1,ci r.h.2,ci r.up.1,ci r.up.2,.tr false (eL 2 Hd.cs r.3),ci r.4,ci r.5,co r.6,ci r.7,.tr false (eL 1 Sf.cs r.8),.tr false (eL 1 b6 r.9)],vp 2 11,vb 2 [ci 0,ci 0,ci 0,ci 0,ca (2) (0) (fun x x_1=>T.hole),ci 0,ci 0,co false,ci 0,ca (1) (0) (fun x x_1=>T.hole),ca (1) (0) (fun x x_1=>T.hole)],vp 3 11,vb 3 [ci r.h.1,ci r.h.2,ci r.up.1,ci r.up.2,ca (2) (0+r.3.length) (n6 0 (i4 []) (n7 (atL Hd.cs r.3))),ci r.4,ci r.5,co r.6,ci r.7,ca (1) (nx13_9) (fx13_9),ca (1) (0+r.9.length) (n6 0 (i4 []) (n7 (atL b6 r.9)))],vi 4 x16,(20,⟨z0,[(true,[ci r.h.1,ci r.h.2,ci r.up.1,ci r.up.2,.tr false (eL 2 Hd.cs r.3),ci r.4,ci r.5,co r.6,ci r.7,.tr false (eL 1 Sf.cs r.8),.tr false (eL 1 b6 r.9)])]⟩)]
def b2j (r:Rm) (nx13_9:Nat) (fx13_9:Nat→Nat→T) (x16:Int):St:=[vp 1 11,vb 1 [ci r.h.1,ci r.h.2,ci r.up.1,ci r.up.2,.tr false (eL 2 Hd.cs r.3),ci r.4,ci r.5,co r.6,ci r.7,.tr false (eL 1 Sf.cs r.8),.tr false (eL 1 b6 r.9)],vp 2 11,vb 2 [ci 0,ci 0,ci 0,ci 0,ca (2) (0) (fun x x_1=>T.hole),ci 0,ci 0,co false,ci 0,ca (1) (0) (fun x x_1=>T.hole),ca (1) (0) (fun x x_1=>T.hole)],vp 3 11,vb 3 [ci r.h.1,ci r.h.2,ci r.up.1,ci r.up.2,ca (2) (0+r.3.length) (n6 0 (i4 []) (n7 (atL Hd.cs r.3))),ci r.4,ci r.5,co r.6,ci r.7,ca (1) (nx13_9) (fx13_9),ca (1) (0+r.9.length) (n6 0 (i4 []) (n7 (atL b6 r.9)))],vi 4 x16,(20,⟨z0,[(true,[ci r.h.1,ci r.h.2,ci r.up.1,ci r.up.2,.tr false (eL 2 Hd.cs r.3),ci r.4,ci r.5,co r.6,ci r.7,.tr false (eL 1 Sf.cs r.8),.tr false (eL 1 b6 r.9)])]⟩),ve 88]
theorem b7P (r:Rm) (nx13_9:Nat) (fx13_9:Nat→Nat→T) (x16:Int) (n:Nat) (K:Ex→St→Res):i8 prog (b3 []) a5F a8M (ons 5 [0,1,0]) n (a4r r nx13_9 fx13_9 x16) K=(bif decide (x16 < (↑r.8.length:Int)) then gd (decide (0≤x16)&&(x16.toNat.blt r.8.length&&true))<|gd ((atL Sf.cs r.8 x16.toNat 0).isArr&&(atL Sf.cs r.8 x16.toNat 0).wd.beq 1)<|gd (((0+(atL Sf.cs r.8 x16.toNat 0).ln)*1).ble 70368744177664&&(0+(atL Sf.cs r.8 x16.toNat 0).ln).ble 70368744177664)<|gd ((0+(atL Sf.cs r.8 x16.toNat 0).ln).ble (0+(atL Sf.cs r.8 x16.toNat 0).ln)&&true)<|gd ((0+(atL Sf.cs r.8 x16.toNat 0).ln).ble (0+(atL Sf.cs r.8 x16.toNat 0).ln)&&true)<|gl nx13_9<|gd (((nx13_9+1)*24).ble 70368744177664&&(nx13_9+1).ble 70368744177664)<|gd ((nx13_9+1).ble (nx13_9+1)&&true)<|K .normal (a4r r (nx13_9+1) (n6 nx13_9 fx13_9 (i4 [[T.arr 1 (0+(atL Sf.cs r.8 x16.toNat 0).ln) (n6 0 (i4 []) (n7 (atL Sf.cs r.8 x16.toNat 0).fn))]])) (i64.wrap (x16+1))) else K (.exit 0) (b2j r nx13_9 fx13_9 x16)):=by kernel_rfl
theorem c6B (r:Rm) (nx13_9:Nat) (fx13_9:Nat→Nat→T) (x16:Int) (n:Nat):d5 prog (b3 []) a5F a8M d1K (ons 5 [0,1,0]) [] n (.exit 0) (b2j r nx13_9 fx13_9 x16)=(gd ((0+r.3.length).ble (0+r.3.length)&&true)<|gl nx13_9<|gd ((0+r.9.length).ble (0+r.9.length)&&true)<|gd ((0+r.3.length).ble (0+r.3.length)&&true)<|gl nx13_9<|gd ((0+r.9.length).ble (0+r.9.length)&&true)<|some ([(true,[.tr true (T.int i64 r.h.1),.tr true (T.int i64 r.h.2),.tr true (T.int i64 r.up.1),.tr true (T.int i64 r.up.2),.tr true (.arr (2) (0+r.3.length) (n6 0 (i4 []) (n7 (atL Hd.cs r.3)))),.tr true (T.int i64 r.4),.tr true (T.int i64 r.5),.tr true (T.bool r.6),.tr true (T.int i64 r.7),.tr true (.arr (1) (nx13_9) (fx13_9)),.tr true (.arr (1) (0+r.9.length) (n6 0 (i4 []) (n7 (atL b6 r.9))))])],[(false,[])])):=by kernel_rfl
theorem e1f (r:Rm) (n:Nat):body prog (b3 []) a5F n a8M [aR r.cs]=(gd (((0+r.3.length)*16).ble 70368744177664&&(0+r.3.length).ble 70368744177664)<|gd ((0+r.3.length).ble (0+r.3.length)&&true)<|gd (((0+r.9.length)*8).ble 70368744177664&&(0+r.9.length).ble 70368744177664)<|gd ((0+r.9.length).ble (0+r.9.length)&&true)<|j5 prog (b3 []) a5F a8M (ons 5 [0,1,0]) n n (a4r r (0) (i4 []) (0)) (d5 prog (b3 []) a5F a8M d1K (ons 5 [0,1,0]) [] n)):=by kernel_rfl
end Go.Mach.F
end
namespace Go.Mach.F
open Go Go.Mach Go.Proofs.Tryz
theorem a2h {α:Type} (row:α→List T):i4 []=atL row ([]:List α):=by
 funext j k
 simp [i4,atL]
theorem c9F {α:Type} (row:α→List T) (out:List α) (x:α):n6 out.length (atL row out) (i4 [row x])=atL row (out ++ [x]):=by
 funext j k
 unfold n6
 rw [V6,Bool.cond_decide]
 by_cases h:j < out.length
 ·rw [if_pos h]
  unfold atL
  rw [List.getElem?_append_left h]
 ·rw [if_neg h]
  unfold atL
  rw [List.getElem?_append_right (by omega)]
  obtain ⟨d,hd⟩:∃ d,d=j - out.length:=⟨_,rfl⟩
  rw [← hd]
  cases d with
  | zero=>rfl
  | succ d=>simp [i4]
theorem b6W {α:Type} {l:List α} {i:Nat} {x:α} (row:α→List T) (h:l[i]?=some x):n6 i (atL row (l.take i)) (i4 [row x])=atL row (l.take (i+1)):=by
 have hi:i < l.length:=(List.getElem?_eq_some_iff.1 h).1
 have:=c9F row (l.take i) x
 rw [List.length_take,show min i l.length=i by omega] at this
 rw [this,List.take_add_one,h]
 rfl
theorem d8h (r:Rm) (h:a3q r):body prog c2O a5E (r.things.length+1) a8L (a0O r)=some (erR 1 (b5W r).cs):=by
 have hlm:=lm
 obtain ⟨h0,h1,h2⟩:D7 r.kids∧D8 r.things∧m6 r.tags:=h
 have hl:r.things.length≤LM:=h1.1
 unfold a0O b5W
 rw [e1e]
 have hst:a4o r 0 (i4 []) 0=(fun i:Nat=>a4o r i (atL Sf.cs (r.things.take i)) (i:Nat)) 0:=by
  rw [a2h Sf.cs]
  rfl
 rw [hst,v5 r.things.length (fun i:Nat=>a4o r i (atL Sf.cs (r.things.take i)) (i:Nat)) (b2i r r.things.length (atL Sf.cs r.things) r.things.length) 0 (fun i K hi=>?_) (fun K=>?_) _ (Nat.le_refl _)]
 ·have c1:b2h r.kids:=h0.1
  have c2:a3p r.tags:=h2
  rw [c6A]
  simp only [f4,l7,i6,Nat.le_refl,b4 (f1z c1) (f1A c1),f2N,b4 (d1F c2) (d1G c2),d8f]
  rfl
 ·have hx:=List.getElem?_eq_getElem hi
  obtain ⟨x,hxe⟩:∃ x,x=r.things[i]:=⟨_,rfl⟩
  rw [← hxe] at hx
  have c0:a0B x.b:=h1.2 _ (List.mem_of_getElem? hx)
  rw [b7O,← b6W Sf.cs hx]
  have hs:(i+1)*24≤70368744177664:=by omega
  have hs2:i+1≤70368744177664:=by omega
  simp (disch:=omega) only [f4,l7,i6,Nat.le_refl,hi,hs,hs2,d6 hx,Sf.cs,o3,b4 (d1D c0) (d1E c0),d8c]
 ·rw [b7O]
  simp only [p8,Nat.lt_irrefl,decide_false,cond_false,List.take_length]
theorem e8Y:d8 prog d5I d5H:=g8 b9v fun x hx =>
 b9 (φ:=c2O) (a9 d8d (a9 f2O (a9 d8g b5))) d9 (kp:=a5E) (n:=x.things.length+1) func83 (c:=d3 a8L) (by kernel_rfl) (d8h x hx) (b8 (by kernel_rfl))
theorem d8i (r:Rm) (h:a0P r):body prog (b3 []) a5F (r.things.length+1) a8M (Z1 r)=some (erR 1 (b1p r).cs):=by
 have hlm:=lm
 obtain ⟨h0,h1,h2⟩:D7 r.kids∧D8 r.things∧m6 r.tags:=h
 have hl:r.things.length≤LM:=h1.1
 have hk:r.kids.length≤LM:=h0.1
 have ht:r.tags.length≤LM:=h2
 unfold Z1 b1p
 rw [e1f]
 have q1:r.kids.length*16≤70368744177664:=by omega
 have q2:r.kids.length≤70368744177664:=by omega
 have q3:r.tags.length*8≤70368744177664:=by omega
 have q4:r.tags.length≤70368744177664:=by omega
 simp only [f4,i6,Nat.le_refl,q1,q2,q3,q4]
 have hst:a4r r 0 (i4 []) 0=(fun i:Nat=>a4r r i (atL Sf.cs (r.things.take i)) (i:Nat)) 0:=by
  rw [a2h Sf.cs]
  rfl
 rw [hst,v5 r.things.length (fun i:Nat=>a4r r i (atL Sf.cs (r.things.take i)) (i:Nat)) (b2j r r.things.length (atL Sf.cs r.things) r.things.length) 0 (fun i K hi=>?_) (fun K=>?_) _ (Nat.le_refl _)]
 ·rw [c6B]
  have e1:n6 0 (i4 []) (n7 (atL Hd.cs r.kids))=atL Hd.cs r.kids:=by rw [b2g,b0B]
  have e2:n6 0 (i4 []) (n7 (atL b6 r.tags))=atL b6 r.tags:=by rw [a4n,b0B]
  simp only [f4,i6,Nat.le_refl,e1,e2]
  rfl
 ·have hx:=List.getElem?_eq_getElem hi
  obtain ⟨x,hxe⟩:∃ x,x=r.things[i]:=⟨_,rfl⟩
  rw [← hxe] at hx
  have c0:x.b.length≤LM:=h1.2 _ (List.mem_of_getElem? hx)
  rw [b7P,← b6W Sf.cs hx]
  have hs:(i+1)*24≤70368744177664:=by omega
  have hs2:i+1≤70368744177664:=by omega
  have hs3:x.b.length*1≤70368744177664:=by omega
  have hs4:x.b.length≤70368744177664:=by omega
  have e1:n6 0 (i4 []) (n7 (atL f5 x.b))=atL f5 x.b:=by rw [b5V,b0B]
  simp (disch:=omega) only [f4,l7,i6,Nat.le_refl,hi,hs,hs2,hs3,hs4,d6 hx,Sf.cs,o3,e1]
 ·rw [b7P]
  simp only [p8,Nat.lt_irrefl,decide_false,cond_false,List.take_length]
theorem d5K:d8 prog a4q a4p:=g8 b9w fun x hx =>
 b9 (φ:=(b3 [])) b5 d9 (kp:=a5F) (n:=x.things.length+1) func70 (c:=d3 a8M) (by kernel_rfl) (d8i x hx) (b8 (by kernel_rfl))
end Go.Mach.F
namespace Go.Mach.F
open Go Go.Mach Go.Proofs.Tryz Go.IntKind
--=set_option maxRecDepth 100000
def zRm:Rm:=⟨⟨0,0⟩,⟨0,0⟩,[],0,0,false,0,[],[]⟩
def a7J (l:List Rm) (h:Hd):Rm:=bif decide (rof l h < 0) then zRm else l.getD (rof l h).toNat zRm
def a0C (x:Ml × Hd):Prop:=(x.1.rooms.length≤LM∧∀ r∈x.1.rooms,D7 r.kids∧D8 r.things∧m6 r.tags)
def S6 (x:Ml × Hd):List Arg:=[aR x.1.cs,aR x.2.cs]
def b0a (x:Ml × Hd):Rm:=a7J x.1.rooms x.2
noncomputable def c8c:Ent:=ent [] a0C S6 (fun r=>erR 2 r.cs) b0a
theorem b5X (x y:Ml × Hd) (h:S6 x=S6 y):x=y:=by
 obtain ⟨m1,h1⟩:=x
 obtain ⟨m2,h2⟩:=y
 simp only [S6,List.cons.injEq,and_true,true_and] at h
 obtain ⟨e0,e1⟩:=h
 obtain rfl:=Ml.cs_ext (j6 e0)
 obtain rfl:=Hd.cs_ext (j6 e1)
 rfl
theorem d8j {m:Ml} {h:Hd} (h0:a0C (m,h)):dom a0C S6 [(wMl m),(wHd h)]=true:=i3 (ea:=S6) (x:=(m,h)) h0
theorem d8k {m:Ml} {h:Hd} (h0:a0C (m,h)):inv a0C S6 [(wMl m),(wHd h)]=(m,h):=g9 b5X (x:=(m,h)) h0
theorem e1g (m:Ml) (h:Hd):b0a (m,h)=a7J m.rooms h:=rfl
def c8d:Nat:=119
noncomputable abbrev b9x:Func:=f119
def b6X:List (Nat × List Nat):=[(0,kq [5,7,9,22,34]),(1,kq [5,9,10,22,34]),(2,kq [5,9,10,20,22,34]),(3,kq [9,22,34]),(4,kq [9,22,34])]
noncomputable abbrev e5a:Sems:=b3 [(Q6,Q5),(a4q,a4p)]
theorem d3T (m:Ml) (h:Hd) (n:Nat):body prog e5a b6X n b9x [aR m.cs,aR h.cs]=(d7 u5 w9 (H2) [(wMl m),(wHd h)] fun (r1:Int)=>bif decide (r1 < 0) then some ([(true,[.tr true (T.int i64 0),.tr true (T.int i64 0),.tr true (T.int i64 0),.tr true (T.int i64 0),.tr true (.arr (2) (0) (fun x x_1=>T.hole)),.tr true (T.int i64 0),.tr true (T.int i64 0),.tr true (T.bool false),.tr true (T.int i64 0),.tr true (.arr (1) (0) (fun x x_1=>T.hole)),.tr true (.arr (1) (0) (fun x x_1=>T.hole))])],(nu 2)) else gd (decide (0≤r1)&&(r1.toNat.blt m.2.length&&true))<|gd (T.isI i64 (atL Rm.cs m.2 r1.toNat 0)&&T.isI i64 (atL Rm.cs m.2 r1.toNat 1)&&T.isI i64 (atL Rm.cs m.2 r1.toNat 2)&&T.isI i64 (atL Rm.cs m.2 r1.toNat 3)&&((atL Rm.cs m.2 r1.toNat 4).isArr&&(atL Rm.cs m.2 r1.toNat 4).wd.beq 2)&&T.isI i64 (atL Rm.cs m.2 r1.toNat 5)&&T.isI i64 (atL Rm.cs m.2 r1.toNat 6)&&(atL Rm.cs m.2 r1.toNat 7).isB&&T.isI i64 (atL Rm.cs m.2 r1.toNat 8)&&((atL Rm.cs m.2 r1.toNat 9).isArr&&(atL Rm.cs m.2 r1.toNat 9).wd.beq 1)&&((atL Rm.cs m.2 r1.toNat 10).isArr&&(atL Rm.cs m.2 r1.toNat 10).wd.beq 1))<|d7 a0P Z1 (b1p) [(0,true,[C.tr false (T.int i64 (atL Rm.cs m.2 r1.toNat 0).toI),C.tr false (T.int i64 (atL Rm.cs m.2 r1.toNat 1).toI),C.tr false (T.int i64 (atL Rm.cs m.2 r1.toNat 2).toI),C.tr false (T.int i64 (atL Rm.cs m.2 r1.toNat 3).toI),C.tr false (T.arr 2 (atL Rm.cs m.2 r1.toNat 4).ln (atL Rm.cs m.2 r1.toNat 4).fn),C.tr false (T.int i64 (atL Rm.cs m.2 r1.toNat 5).toI),C.tr false (T.int i64 (atL Rm.cs m.2 r1.toNat 6).toI),C.tr false (T.bool (atL Rm.cs m.2 r1.toNat 7).toB),C.tr false (T.int i64 (atL Rm.cs m.2 r1.toNat 8).toI),C.tr false (T.arr 1 (atL Rm.cs m.2 r1.toNat 9).ln (atL Rm.cs m.2 r1.toNat 9).fn),C.tr false (T.arr 1 (atL Rm.cs m.2 r1.toNat 10).ln (atL Rm.cs m.2 r1.toNat 10).fn)])] fun (r2:Rm)=>gl r2.3.length<|gl r2.8.length<|gl r2.9.length<|gl r2.3.length<|gl r2.8.length<|gl r2.9.length<|some ([(oR (Rm.cs r2))],(nu 2))):=by kernel_rfl
end Go.Mach.F
namespace Go.Mach.F
open Go Go.Mach Go.Proofs.Tryz
theorem a4S {l:List Rm} {h:Hd} (h0:¬ rof l h < 0):0≤rof l h∧(rof l h).toNat < l.length:=by
 refine ⟨by omega,?_⟩
 unfold rof at h0 ⊢
 cases hf:(List.range l.length).find? (fun i=>decide (l[i]?.map Rm.h=some h)) with
 | some i =>
  have:=List.mem_range.1 (List.mem_of_find?_eq_some hf)
  simpa using this
 | none =>
  rw [hf] at h0
  exact absurd (by decide) h0
theorem A2 {l:List Rm} {k:Nat} (h:k < l.length):l[k]?=some (l.getD k zRm):=by
 rw [List.getD_eq_getElem?_getD,List.getElem?_eq_getElem h]
 rfl
theorem d1L (m:Ml) (h:Hd) (n:Nat) (h0:a0C (m,h)):body prog e5a b6X n b9x (S6 (m,h))=some (erR 2 (b0a (m,h)).cs):=by
 obtain ⟨hl,hr⟩:=h0
 dsimp only at hl hr
 have c0:u5 (m,h):=hl
 unfold S6 b0a a7J
 dsimp only
 rw [d3T]
 simp only [f4,l7,Ml.cs,Hd.cs,b4 (a1S c0) (a1T c0),a3n]
 by_cases e:rof m.rooms h < 0
 ·simp only [e,decide_true,cond_true]
  rfl
 ·have e1:=a4S e
  obtain ⟨r,hre⟩:∃ r,r=m.rooms.getD (rof m.rooms h).toNat zRm:=⟨_,rfl⟩
  have hx:=A2 e1.2
  rw [← hre] at hx ⊢
  have c1:a0P r:=hr _ (List.mem_of_getElem? hx)
  simp only [f4,e,decide_false,cond_false,e1.1,e1.2,d6 hx,Rm.cs,l7]
  rw [b4 (d1I c1) (d1J c1)]
  simp only [f4,i6,Nat.le_refl,l7,d5J]
  rfl
theorem e1h:d8 prog c8d c8c:=g8 b5X fun x hx =>
 b9 (φ:=e5a) (a9 a9V (a9 d5K b5)) d9 (kp:=b6X) (n:=0) func119 (c:=d3 b9x) (by kernel_rfl) (d1L x.1 x.2 (0) hx) (b8 (by kernel_rfl))
end Go.Mach.F
namespace Go.Mach.F
open Go Go.Mach Go.Proofs.Tryz
--=set_option maxRecDepth 100000
def d1M:Nat:=181
noncomputable abbrev e1i:Func:=f181
def e8Z:List (Nat × List Nat):=[(0,[4,5,28,32,36]),(1,[8])]
noncomputable def d1N:Ent:=inl [] prog (b3 []) e8Z 0 e1i
theorem e1j:d8 prog d1M d1N:=p6 b5 d9 (c:=d3 e1i) func181 (by kernel_rfl) (b8 (by kernel_rfl))
def d1O:Nat:=170
noncomputable abbrev e1k:Func:=f170
def e9a:List (Nat × List Nat):=[(0,[4,5,28,32,36]),(1,[8])]
noncomputable def d1P:Ent:=inl [] prog (b3 []) e9a 0 e1k
theorem e1l:d8 prog d1O d1P:=p6 b5 d9 (c:=d3 e1k) func170 (by kernel_rfl) (b8 (by kernel_rfl))
def e1m:Nat:=189
noncomputable abbrev e1n:Func:=f189
def e9b:List (Nat × List Nat):=[(0,[4,5,28,32,36,48,52,56]),(1,[8])]
noncomputable def e1o:Ent:=inl [] prog (b3 [(d1M,d1N)]) e9b 0 e1n
theorem f1D:d8 prog e1m e1o:=p6 (a9 e1j b5) d9 (c:=d3 e1n) func189 (by kernel_rfl) (b8 (by kernel_rfl))
def e1p:Nat:=177
noncomputable abbrev e1q:Func:=f177
def e9c:List (Nat × List Nat):=[(0,[4,5,28,32,36,48,52,56]),(1,[8])]
noncomputable def e1r:Ent:=inl [] prog (b3 [(d1O,d1P)]) e9c 0 e1q
theorem f1E:d8 prog e1p e1r:=p6 (a9 e1l b5) d9 (c:=d3 e1q) func177 (by kernel_rfl) (b8 (by kernel_rfl))
end Go.Mach.F
namespace Go.Mach.F
open Go Go.Mach Go.Proofs.Tryz Go.IntKind
--=set_option maxRecDepth 100000
def hOk (h:Hd):Bool:=decide (0≤h.slot)&&decide (1≤h.gen)
def rsv (m:Ml) (h:Hd):Int × Int:=bif hOk h then (bif decide (rof m.rooms h < 0) then (-1,2) else (rof m.rooms h,0)) else (-1,1)
def Q1 (x:Ml × Hd):Prop:=x.1.rooms.length≤LM
def T9 (x:Ml × Hd):List Arg:=[aR x.1.cs,aR x.2.cs]
def a4T (x:Ml × Hd):Int × Int:=rsv x.1 x.2
noncomputable def a0D:Ent:=ent [] Q1 T9 (fun (x:Int × Int)=>([oT (.int .i64 x.1),oT (.int .i64 x.2)],[nul,nul])) a4T
theorem c1C (x y:Ml × Hd) (h:T9 x=T9 y):x=y:=by
 obtain ⟨m1,h1⟩:=x
 obtain ⟨m2,h2⟩:=y
 simp only [T9,List.cons.injEq,and_true,true_and] at h
 obtain ⟨e0,e1⟩:=h
 obtain rfl:=Ml.cs_ext (j6 e0)
 obtain rfl:=Hd.cs_ext (j6 e1)
 rfl
theorem b5Y {m:Ml} {h:Hd} (h0:Q1 (m,h)):dom Q1 T9 [(wMl m),(wHd h)]=true:=i3 (ea:=T9) (x:=(m,h)) h0
theorem b5Z {m:Ml} {h:Hd} (h0:Q1 (m,h)):inv Q1 T9 [(wMl m),(wHd h)]=(m,h):=g9 c1C (x:=(m,h)) h0
theorem b9y (m:Ml) (h:Hd):a4T (m,h)=rsv m h:=rfl
def a0E:Nat:=130
noncomputable abbrev d1Q:Func:=f130
def c6C:List (Nat × List Nat):=[(0,kq [5,7]),(1,kq [5,7,18]),(2,[16,20]),(3,[24]),(4,[24,56]),(5,[16,20]),(6,[16,20])]
noncomputable abbrev e5b:Sems:=b3 [(d1M,d1N),(Q8,Q7)]
theorem e5c (m:Ml) (h:Hd) (n:Nat):body prog e5b c6C n d1Q [aR m.cs,aR h.cs]=(bif decide (0≤h.1) then bif !decide (1≤h.2) then some ([(false,[.tr true (T.int i64 (-1))]),(false,[.tr true (T.int i64 1)])],(nu 2)) else d7 z3 B7 (W5) [(wMl m),(wHd h)] fun (r1:Int)=>bif decide (r1 < 0) then some ([(false,[.tr true (T.int i64 (-1))]),(false,[.tr true (T.int i64 2)])],(nu 2)) else some ([(false,[.tr true (T.int i64 r1)]),(false,[.tr true (T.int i64 0)])],(nu 2)) else some ([(false,[.tr true (T.int i64 (-1))]),(false,[.tr true (T.int i64 1)])],(nu 2))):=by kernel_rfl
def Q2 (x:Ml × Hd):Prop:=x.1.rooms.length≤LM
def U0 (x:Ml × Hd):List Arg:=[aR x.1.cs,aR x.2.cs]
def a4U (x:Ml × Hd):Int × Int:=rsv x.1 x.2
noncomputable def K9:Ent:=ent [] Q2 U0 (fun (x:Int × Int)=>([oT (.int .i64 x.1),oT (.int .i64 x.2)],[nul,nul])) a4U
theorem c1D (x y:Ml × Hd) (h:U0 x=U0 y):x=y:=by
 obtain ⟨m1,h1⟩:=x
 obtain ⟨m2,h2⟩:=y
 simp only [U0,List.cons.injEq,and_true,true_and] at h
 obtain ⟨e0,e1⟩:=h
 obtain rfl:=Ml.cs_ext (j6 e0)
 obtain rfl:=Hd.cs_ext (j6 e1)
 rfl
theorem b6a {m:Ml} {h:Hd} (h0:Q2 (m,h)):dom Q2 U0 [(wMl m),(wHd h)]=true:=i3 (ea:=U0) (x:=(m,h)) h0
theorem b6b {m:Ml} {h:Hd} (h0:Q2 (m,h)):inv Q2 U0 [(wMl m),(wHd h)]=(m,h):=g9 c1D (x:=(m,h)) h0
theorem b9z (m:Ml) (h:Hd):a4U (m,h)=rsv m h:=rfl
def L0:Nat:=114
noncomputable abbrev d1R:Func:=f114
def c6D:List (Nat × List Nat):=[(0,kq [5,7]),(1,kq [5,7,18]),(2,[16,20]),(3,[24]),(4,[24,56]),(5,[16,20]),(6,[16,20])]
noncomputable abbrev e5d:Sems:=b3 [(d1O,d1P),(Q6,Q5)]
theorem e5e (m:Ml) (h:Hd) (n:Nat):body prog e5d c6D n d1R [aR m.cs,aR h.cs]=(bif decide (0≤h.1) then bif !decide (1≤h.2) then some ([(false,[.tr true (T.int i64 (-1))]),(false,[.tr true (T.int i64 1)])],(nu 2)) else d7 u5 w9 (H2) [(wMl m),(wHd h)] fun (r1:Int)=>bif decide (r1 < 0) then some ([(false,[.tr true (T.int i64 (-1))]),(false,[.tr true (T.int i64 2)])],(nu 2)) else some ([(false,[.tr true (T.int i64 r1)]),(false,[.tr true (T.int i64 0)])],(nu 2)) else some ([(false,[.tr true (T.int i64 (-1))]),(false,[.tr true (T.int i64 1)])],(nu 2))):=by kernel_rfl
end Go.Mach.F
namespace Go.Mach.F
open Go Go.Mach Go.Proofs.Tryz
theorem e1s (m:Ml) (h:Hd) (n:Nat) (h0:Q1 (m,h)):body prog e5b c6C n d1Q (T9 (m,h))=some ([oT (.int .i64 (a4T (m,h)).1),oT (.int .i64 (a4T (m,h)).2)],[nul,nul]):=by
 have c0:z3 (m,h):=h0
 unfold T9 a4T rsv hOk
 dsimp only
 rw [e5c]
 by_cases a1:0≤h.slot
 case neg =>
  simp only [a1,decide_false,cond_false,Bool.false_and]
  rfl
 by_cases a2:1≤h.gen
 case neg =>
  simp only [a1,a2,decide_true,decide_false,cond_true,cond_false,Bool.and_false,Bool.not_false]
  rfl
 simp only [a1,a2,decide_true,cond_true,Bool.and_self,Bool.not_true,cond_false,l7,Ml.cs,Hd.cs]
 rw [b4 (a1U c0) (a1V c0)]
 simp only [a3o]
 by_cases e:rof m.rooms h < 0
 ·simp only [e,decide_true,cond_true]
  rfl
 ·simp only [e,decide_false,cond_false]
  rfl
theorem b9A:d8 prog a0E a0D:=g8 c1C fun x hx =>
 b9 (φ:=e5b) (a9 e1j (a9 a9W b5)) d9 (kp:=c6C) (n:=0) func130 (c:=d3 d1Q) (by kernel_rfl) (e1s x.1 x.2 (0) hx) (b8 (by kernel_rfl))
theorem e1t (m:Ml) (h:Hd) (n:Nat) (h0:Q2 (m,h)):body prog e5d c6D n d1R (U0 (m,h))=some ([oT (.int .i64 (a4U (m,h)).1),oT (.int .i64 (a4U (m,h)).2)],[nul,nul]):=by
 have c0:u5 (m,h):=h0
 unfold U0 a4U rsv hOk
 dsimp only
 rw [e5e]
 by_cases a1:0≤h.slot
 case neg =>
  simp only [a1,decide_false,cond_false,Bool.false_and]
  rfl
 by_cases a2:1≤h.gen
 case neg =>
  simp only [a1,a2,decide_true,decide_false,cond_true,cond_false,Bool.and_false,Bool.not_false]
  rfl
 simp only [a1,a2,decide_true,cond_true,Bool.and_self,Bool.not_true,cond_false,l7,Ml.cs,Hd.cs]
 rw [b4 (a1S c0) (a1T c0)]
 simp only [a3n]
 by_cases e:rof m.rooms h < 0
 ·simp only [e,decide_true,cond_true]
  rfl
 ·simp only [e,decide_false,cond_false]
  rfl
theorem b9B:d8 prog L0 K9:=g8 c1D fun x hx =>
 b9 (φ:=e5d) (a9 e1l (a9 a9V b5)) d9 (kp:=c6D) (n:=0) func114 (c:=d3 d1R) (by kernel_rfl) (e1t x.1 x.2 (0) hx) (b8 (by kernel_rfl))
theorem a3r {m:Ml} {h:Hd} (e:(rsv m h).2=0):0≤(rsv m h).1∧(rsv m h).1.toNat < m.rooms.length:=by
 unfold rsv at e ⊢
 cases hr:hOk h with
 | false =>
  rw [hr] at e
  simp at e
 | true =>
  rw [hr] at e
  simp only [cond_true] at e ⊢
  by_cases h1:rof m.rooms h < 0
  ·simp only [h1,decide_true,cond_true] at e
   simp at e
  ·simp only [h1,decide_false,cond_false]
   exact a4S h1
end Go.Mach.F
namespace Go.Mach.F
open Go Go.Mach Go.Proofs.Tryz Go.IntKind
--=set_option maxRecDepth 100000
def A9 (x:Ml):Prop:=ok_RmS x.rooms∧m6 x.log
def F9 (x:Ml):List Arg:=[aR x.cs]
def Z2 (x:Ml):Ml:=x
noncomputable def P5:Ent:=ent [] A9 F9 (fun m=>erR 1 m.cs) Z2
theorem b7Q (x y:Ml) (h:F9 x=F9 y):x=y:=by
 simp only [F9,List.cons.injEq,and_true,true_and] at h
 exact Ml.cs_ext (j6 h)
theorem a3s {m:Ml} (h:A9 m):dom A9 F9 [(wMl m)]=true:=i3 (ea:=F9) (x:=m) h
theorem a3t {m:Ml} (h:A9 m):inv A9 F9 [(wMl m)]=m:=g9 b7Q (x:=m) h
theorem a5G (m:Ml):Z2 m=m:=rfl
def P6:Nat:=39
noncomputable abbrev a5H:Func:=f39
def a3u:List (Nat × List Nat):=[(0,kq [3,5,7,14,20,22,54]),(1,kq [3,5,7,14,20,22,54]),(2,kq [3,5,7,14,20,22,24,26,28,30,54]),(3,kq [3,5,7,14,20,22,24,26,28,30,32,54]),(4,kq [3,5,7,11,14,20,22,24,26,28,30,34,36,54]),(5,kq [3,5,7,14,20,22,24,26,28,30,54]),(6,kq [3,5,7,14,20,22,24,26,28,30,54]),(7,kq [5,7,14,20,22,54])]
def c8e:List Nat:=[0]
def a2q (m:Ml) (r1:List Int) (nx13_6:Nat) (fx13_6:Nat→Nat→T) (x60:Int):St:=[vp 1 8,vb 1 [ci m.c.1,ci m.c.2,ci m.c.3,ci m.c.4,ci m.c.5,ci m.c.6,.tr false (eL 11 Rm.cs m.2),.tr false (eL 1 b6 m.3)],vp 2 8,vb 2 [ci 0,ci 0,ci 0,ci 0,ci 0,ci 0,ca (11) (0) (fun x x_1=>T.hole),ca (1) (0) (fun x x_1=>T.hole)],vp 3 8,vb 3 [ci m.c.1,ci m.c.2,ci m.c.3,ci m.c.4,ci m.c.5,ci m.c.6,ca (11) (nx13_6) (fx13_6),ca (1) (r1.length) (atL b6 r1)],(28,⟨z0,[(true,[ci m.c.1,ci m.c.2,ci m.c.3,ci m.c.4,ci m.c.5,ci m.c.6])]⟩),(40,⟨z0,[(false,[.tr true (T.hole)])]⟩),(44,⟨z0,[(true,[ci m.c.1,ci m.c.2,ci m.c.3,ci m.c.4,ci m.c.5,ci m.c.6,.tr true (T.hole),.tr true (T.hole)])]⟩),(48,⟨z0,[(false,[(C.pt (Pt.ptr 5 0 [] 8 0 6))])]⟩),(52,⟨z0,[(false,[.tr false (eL 11 Rm.cs m.2)])]⟩),vi 14 (↑m.2.length:Int),vi 15 x60]
def b0C (m:Ml) (r1:List Int) (nx13_6:Nat) (fx13_6:Nat→Nat→T) (x60:Int):St:=[vp 1 8,vb 1 [ci m.c.1,ci m.c.2,ci m.c.3,ci m.c.4,ci m.c.5,ci m.c.6,.tr false (eL 11 Rm.cs m.2),.tr false (eL 1 b6 m.3)],vp 2 8,vb 2 [ci 0,ci 0,ci 0,ci 0,ci 0,ci 0,ca (11) (0) (fun x x_1=>T.hole),ca (1) (0) (fun x x_1=>T.hole)],vp 3 8,vb 3 [ci m.c.1,ci m.c.2,ci m.c.3,ci m.c.4,ci m.c.5,ci m.c.6,ca (11) (nx13_6) (fx13_6),ca (1) (r1.length) (atL b6 r1)],(28,⟨z0,[(true,[ci m.c.1,ci m.c.2,ci m.c.3,ci m.c.4,ci m.c.5,ci m.c.6])]⟩),(40,⟨z0,[(false,[.tr true (T.hole)])]⟩),(44,⟨z0,[(true,[ci m.c.1,ci m.c.2,ci m.c.3,ci m.c.4,ci m.c.5,ci m.c.6,.tr true (T.hole),.tr true (T.hole)])]⟩),(48,⟨z0,[(false,[(C.pt (Pt.ptr 5 0 [] 8 0 6))])]⟩),(52,⟨z0,[(false,[.tr false (eL 11 Rm.cs m.2)])]⟩),vi 14 (↑m.2.length:Int),vi 15 x60,ve 64]
noncomputable abbrev c2P:Sems:=b3 [(d5I,d5H),(c9D,c9E)]
theorem b6c (m:Ml) (r1:List Int) (nx13_6:Nat) (fx13_6:Nat→Nat→T) (x60:Int) (n:Nat) (K:Ex→St→Res):i8 prog c2P a3u a5H [1,1,0,1,0] n (a2q m r1 nx13_6 fx13_6 x60) K=(bif decide (x60 < (↑m.2.length:Int)) then gd (decide (0≤x60)&&(x60.toNat.blt m.2.length&&true))<|gd (T.isI i64 (atL Rm.cs m.2 x60.toNat 0)&&T.isI i64 (atL Rm.cs m.2 x60.toNat 1)&&T.isI i64 (atL Rm.cs m.2 x60.toNat 2)&&T.isI i64 (atL Rm.cs m.2 x60.toNat 3)&&((atL Rm.cs m.2 x60.toNat 4).isArr&&(atL Rm.cs m.2 x60.toNat 4).wd.beq 2)&&T.isI i64 (atL Rm.cs m.2 x60.toNat 5)&&T.isI i64 (atL Rm.cs m.2 x60.toNat 6)&&(atL Rm.cs m.2 x60.toNat 7).isB&&T.isI i64 (atL Rm.cs m.2 x60.toNat 8)&&((atL Rm.cs m.2 x60.toNat 9).isArr&&(atL Rm.cs m.2 x60.toNat 9).wd.beq 1)&&((atL Rm.cs m.2 x60.toNat 10).isArr&&(atL Rm.cs m.2 x60.toNat 10).wd.beq 1))<|d7 a3q a0O (b5W) [(0,true,[C.tr false (T.int i64 (atL Rm.cs m.2 x60.toNat 0).toI),C.tr false (T.int i64 (atL Rm.cs m.2 x60.toNat 1).toI),C.tr false (T.int i64 (atL Rm.cs m.2 x60.toNat 2).toI),C.tr false (T.int i64 (atL Rm.cs m.2 x60.toNat 3).toI),C.tr false (T.arr 2 (atL Rm.cs m.2 x60.toNat 4).ln (atL Rm.cs m.2 x60.toNat 4).fn),C.tr false (T.int i64 (atL Rm.cs m.2 x60.toNat 5).toI),C.tr false (T.int i64 (atL Rm.cs m.2 x60.toNat 6).toI),C.tr false (T.bool (atL Rm.cs m.2 x60.toNat 7).toB),C.tr false (T.int i64 (atL Rm.cs m.2 x60.toNat 8).toI),C.tr false (T.arr 1 (atL Rm.cs m.2 x60.toNat 9).ln (atL Rm.cs m.2 x60.toNat 9).fn),C.tr false (T.arr 1 (atL Rm.cs m.2 x60.toNat 10).ln (atL Rm.cs m.2 x60.toNat 10).fn)])] fun (r2:Rm)=>gl r2.3.length<|gl r2.8.length<|gl r2.9.length<|gl nx13_6<|gd (((nx13_6+1)*136).ble 70368744177664&&(nx13_6+1).ble 70368744177664)<|gd ((nx13_6+1).ble (nx13_6+1)&&true)<|K .normal (a2q m r1 (nx13_6+1) (n6 nx13_6 fx13_6 (i4 [[T.int i64 r2.h.1,T.int i64 r2.h.2,T.int i64 r2.up.1,T.int i64 r2.up.2,T.arr 2 r2.3.length (eL 2 Hd.cs r2.3).fn,T.int i64 r2.4,T.int i64 r2.5,T.bool r2.6,T.int i64 r2.7,T.arr 1 r2.8.length (eL 1 Sf.cs r2.8).fn,T.arr 1 r2.9.length (eL 1 b6 r2.9).fn]])) (i64.wrap (x60+1))) else K (.exit 0) (b0C m r1 nx13_6 fx13_6 x60)):=by kernel_rfl
theorem c4H (m:Ml) (r1:List Int) (nx13_6:Nat) (fx13_6:Nat→Nat→T) (x60:Int) (n:Nat):d5 prog c2P a3u a5H c8e [1,1,0,1,0] [] n (.exit 0) (b0C m r1 nx13_6 fx13_6 x60)=(gl nx13_6<|gl r1.length<|gl nx13_6<|gl r1.length<|some ([(true,[.tr true (T.int i64 m.c.1),.tr true (T.int i64 m.c.2),.tr true (T.int i64 m.c.3),.tr true (T.int i64 m.c.4),.tr true (T.int i64 m.c.5),.tr true (T.int i64 m.c.6),.tr true (.arr (11) (nx13_6) (fx13_6)),.tr true (.arr (1) (r1.length) (atL b6 r1))])],[(false,[])])):=by kernel_rfl
theorem d8l (m:Ml) (n:Nat):body prog c2P a3u n a5H [aR m.cs]=(d7 a3p a4R (c4F) [(0,false,[C.tr false (eL 1 b6 m.3)])] fun (r1:List Int)=>gl r1.length<|gl r1.length<|j5 prog c2P a3u a5H [1,1,0,1,0] n n (a2q m r1 (0) (fun x x_1=>T.hole) (0)) (d5 prog c2P a3u a5H c8e [1,1,0,1,0] [] n)):=by kernel_rfl
def p9 (x:Ml):Prop:=ok_RmS x.rooms∧m6 x.log
def w5 (x:Ml):List Arg:=[aR x.cs]
def E2 (x:Ml):Ml:=x
noncomputable def C7:Ent:=ent [] p9 w5 (fun m=>erR 1 m.cs) E2
theorem b7R (x y:Ml) (h:w5 x=w5 y):x=y:=by
 simp only [w5,List.cons.injEq,and_true,true_and] at h
 exact Ml.cs_ext (j6 h)
theorem W7 {m:Ml} (h:p9 m):dom p9 w5 [(wMl m)]=true:=i3 (ea:=w5) (x:=m) h
theorem W8 {m:Ml} (h:p9 m):inv p9 w5 [(wMl m)]=m:=g9 b7R (x:=m) h
theorem a0Q (m:Ml):E2 m=m:=rfl
def C8:Nat:=32
noncomputable abbrev a5I:Func:=f32
def a3v:List (Nat × List Nat):=[(0,kq [3,5,7,14,16,18,20,22,24,26,66]),(1,kq [3,5,7,14,16,18,20,22,24,26,66]),(2,kq [3,5,7,8,14,16,18,20,22,24,26,66]),(3,kq [3,5,7,8,14,16,18,20,22,24,26,36,66]),(4,kq [3,5,7,8,14,16,18,20,22,24,26,66]),(5,kq [3,5,7,8,11,14,16,18,20,22,24,26,52,66]),(6,kq [3,5,7,8,14,16,18,20,22,24,26,66]),(7,kq [3,5,7,14,16,18,20,22,24,26,66])]
def c8f:List Nat:=[0]
def a2r (m:Ml) (nx13_6:Nat) (fx13_6:Nat→Nat→T) (x16:Int):St:=[vp 1 8,vb 1 [ci m.c.1,ci m.c.2,ci m.c.3,ci m.c.4,ci m.c.5,ci m.c.6,.tr false (eL 11 Rm.cs m.2),.tr false (eL 1 b6 m.3)],vp 2 8,vb 2 [ci 0,ci 0,ci 0,ci 0,ci 0,ci 0,ca (11) (0) (fun x x_1=>T.hole),ca (1) (0) (fun x x_1=>T.hole)],vp 3 8,vb 3 [ci m.c.1,ci m.c.2,ci m.c.3,ci m.c.4,ci m.c.5,ci m.c.6,ca (11) (nx13_6) (fx13_6),ca (1) (0+m.3.length) (n6 0 (i4 []) (n7 (atL b6 m.3)))],vi 4 x16,(28,⟨z0,[(true,[ci m.c.1,ci m.c.2,ci m.c.3,ci m.c.4,ci m.c.5,ci m.c.6])]⟩),(32,⟨z0,[(false,[.tr true (T.hole)])]⟩),(36,⟨z0,[(false,[.tr true (T.hole)])]⟩),(40,⟨z0,[(false,[(C.pt (Pt.ptr 5 0 [] 8 0 7))])]⟩),(44,⟨z0,[(false,[.tr false (eL 1 b6 m.3)])]⟩),(48,⟨z0,[(false,[.tr true (T.hole)])]⟩),(52,⟨z0,[(true,[ci m.c.1,ci m.c.2,ci m.c.3,ci m.c.4,ci m.c.5,ci m.c.6,.tr true (T.hole),.tr true (T.hole)])]⟩)]
def b0D (m:Ml) (nx13_6:Nat) (fx13_6:Nat→Nat→T) (x16:Int):St:=[vp 1 8,vb 1 [ci m.c.1,ci m.c.2,ci m.c.3,ci m.c.4,ci m.c.5,ci m.c.6,.tr false (eL 11 Rm.cs m.2),.tr false (eL 1 b6 m.3)],vp 2 8,vb 2 [ci 0,ci 0,ci 0,ci 0,ci 0,ci 0,ca (11) (0) (fun x x_1=>T.hole),ca (1) (0) (fun x x_1=>T.hole)],vp 3 8,vb 3 [ci m.c.1,ci m.c.2,ci m.c.3,ci m.c.4,ci m.c.5,ci m.c.6,ca (11) (nx13_6) (fx13_6),ca (1) (0+m.3.length) (n6 0 (i4 []) (n7 (atL b6 m.3)))],vi 4 x16,(28,⟨z0,[(true,[ci m.c.1,ci m.c.2,ci m.c.3,ci m.c.4,ci m.c.5,ci m.c.6])]⟩),(32,⟨z0,[(false,[.tr true (T.hole)])]⟩),(36,⟨z0,[(false,[.tr true (T.hole)])]⟩),(40,⟨z0,[(false,[(C.pt (Pt.ptr 5 0 [] 8 0 7))])]⟩),(44,⟨z0,[(false,[.tr false (eL 1 b6 m.3)])]⟩),(48,⟨z0,[(false,[.tr true (T.hole)])]⟩),(52,⟨z0,[(true,[ci m.c.1,ci m.c.2,ci m.c.3,ci m.c.4,ci m.c.5,ci m.c.6,.tr true (T.hole),.tr true (T.hole)])]⟩),ve 72]
theorem b6d (m:Ml) (nx13_6:Nat) (fx13_6:Nat→Nat→T) (x16:Int) (n:Nat) (K:Ex→St→Res):i8 prog (b3 [(a4q,a4p)]) a3v a5I [1,1,0,1,0] n (a2r m nx13_6 fx13_6 x16) K=(bif decide (x16 < (↑m.2.length:Int)) then gd (decide (0≤x16)&&(x16.toNat.blt m.2.length&&true))<|gd (T.isI i64 (atL Rm.cs m.2 x16.toNat 0)&&T.isI i64 (atL Rm.cs m.2 x16.toNat 1)&&T.isI i64 (atL Rm.cs m.2 x16.toNat 2)&&T.isI i64 (atL Rm.cs m.2 x16.toNat 3)&&((atL Rm.cs m.2 x16.toNat 4).isArr&&(atL Rm.cs m.2 x16.toNat 4).wd.beq 2)&&T.isI i64 (atL Rm.cs m.2 x16.toNat 5)&&T.isI i64 (atL Rm.cs m.2 x16.toNat 6)&&(atL Rm.cs m.2 x16.toNat 7).isB&&T.isI i64 (atL Rm.cs m.2 x16.toNat 8)&&((atL Rm.cs m.2 x16.toNat 9).isArr&&(atL Rm.cs m.2 x16.toNat 9).wd.beq 1)&&((atL Rm.cs m.2 x16.toNat 10).isArr&&(atL Rm.cs m.2 x16.toNat 10).wd.beq 1))<|d7 a0P Z1 (b1p) [(0,true,[C.tr false (T.int i64 (atL Rm.cs m.2 x16.toNat 0).toI),C.tr false (T.int i64 (atL Rm.cs m.2 x16.toNat 1).toI),C.tr false (T.int i64 (atL Rm.cs m.2 x16.toNat 2).toI),C.tr false (T.int i64 (atL Rm.cs m.2 x16.toNat 3).toI),C.tr false (T.arr 2 (atL Rm.cs m.2 x16.toNat 4).ln (atL Rm.cs m.2 x16.toNat 4).fn),C.tr false (T.int i64 (atL Rm.cs m.2 x16.toNat 5).toI),C.tr false (T.int i64 (atL Rm.cs m.2 x16.toNat 6).toI),C.tr false (T.bool (atL Rm.cs m.2 x16.toNat 7).toB),C.tr false (T.int i64 (atL Rm.cs m.2 x16.toNat 8).toI),C.tr false (T.arr 1 (atL Rm.cs m.2 x16.toNat 9).ln (atL Rm.cs m.2 x16.toNat 9).fn),C.tr false (T.arr 1 (atL Rm.cs m.2 x16.toNat 10).ln (atL Rm.cs m.2 x16.toNat 10).fn)])] fun (r1:Rm)=>gl r1.3.length<|gl r1.8.length<|gl r1.9.length<|gl r1.3.length<|gl r1.8.length<|gl r1.9.length<|gl nx13_6<|gd (((nx13_6+1)*136).ble 70368744177664&&(nx13_6+1).ble 70368744177664)<|gd ((nx13_6+1).ble (nx13_6+1)&&true)<|K .normal (a2r m (nx13_6+1) (n6 nx13_6 fx13_6 (i4 [[T.int i64 r1.h.1,T.int i64 r1.h.2,T.int i64 r1.up.1,T.int i64 r1.up.2,T.arr 2 r1.3.length (eL 2 Hd.cs r1.3).fn,T.int i64 r1.4,T.int i64 r1.5,T.bool r1.6,T.int i64 r1.7,T.arr 1 r1.8.length (eL 1 Sf.cs r1.8).fn,T.arr 1 r1.9.length (eL 1 b6 r1.9).fn]])) (i64.wrap (x16+1))) else K (.exit 0) (b0D m nx13_6 fx13_6 x16)):=by kernel_rfl
theorem c4I (m:Ml) (nx13_6:Nat) (fx13_6:Nat→Nat→T) (x16:Int) (n:Nat):d5 prog (b3 [(a4q,a4p)]) a3v a5I c8f [1,1,0,1,0] [] n (.exit 0) (b0D m nx13_6 fx13_6 x16)=(gl nx13_6<|gd ((0+m.3.length).ble (0+m.3.length)&&true)<|gl nx13_6<|gd ((0+m.3.length).ble (0+m.3.length)&&true)<|some ([(true,[.tr true (T.int i64 m.c.1),.tr true (T.int i64 m.c.2),.tr true (T.int i64 m.c.3),.tr true (T.int i64 m.c.4),.tr true (T.int i64 m.c.5),.tr true (T.int i64 m.c.6),.tr true (.arr (11) (nx13_6) (fx13_6)),.tr true (.arr (1) (0+m.3.length) (n6 0 (i4 []) (n7 (atL b6 m.3))))])],[(false,[])])):=by kernel_rfl
theorem d8m (m:Ml) (n:Nat):body prog (b3 [(a4q,a4p)]) a3v n a5I [aR m.cs]=(gd (((0+m.3.length)*8).ble 70368744177664&&(0+m.3.length).ble 70368744177664)<|gd ((0+m.3.length).ble (0+m.3.length)&&true)<|gd ((0+m.3.length).ble (0+m.3.length)&&true)<|j5 prog (b3 [(a4q,a4p)]) a3v a5I [1,1,0,1,0] n n (a2r m (0) (i4 []) (0)) (d5 prog (b3 [(a4q,a4p)]) a3v a5I c8f [1,1,0,1,0] [] n)):=by kernel_rfl
end Go.Mach.F
namespace Go.Mach.F
open Go Go.Mach Go.Proofs.Tryz
theorem d3U (m:Ml) (h:A9 m):body prog c2P a3u (m.rooms.length+1) a5H (F9 m)=some (erR 1 (Z2 m).cs):=by
 have hlm:=lm
 obtain ⟨h0,h2⟩:ok_RmS m.rooms∧m6 m.log:=h
 have hl:m.rooms.length≤LM:=h0.1
 have ht:m.log.length≤LM:=h2
 unfold F9 Z2
 rw [d8l]
 have c1:a3p m.log:=h2
 try simp only [l7,Ml.cs]
 rw [b4 (d1F c1) (d1G c1)]
 simp only [d8f,f4,i6,Nat.le_refl]
 have hst:a2q m m.log 0 (fun _ _=>T.hole) 0=(fun i:Nat=>a2q m m.log i (atL Rm.cs (m.rooms.take i)) (i:Nat)) 0:=by
  rfl
 rw [hst,v5 m.rooms.length (fun i:Nat=>a2q m m.log i (atL Rm.cs (m.rooms.take i)) (i:Nat)) (b0C m m.log m.rooms.length (atL Rm.cs m.rooms) m.rooms.length) 0 (fun i K hi=>?_) (fun K=>?_) _ (Nat.le_refl _)]
 ·rw [c4H]
  have e2:n6 0 (i4 []) (n7 (atL b6 m.log))=atL b6 m.log:=by rw [a4n,b0B]
  simp only [f4,i6,Nat.le_refl,e2]
  rfl
 ·have hx:=List.getElem?_eq_getElem hi
  obtain ⟨x,hxe⟩:∃ x,x=m.rooms[i]:=⟨_,rfl⟩
  rw [← hxe] at hx
  have c0:a3q x:=h0.2 _ (List.mem_of_getElem? hx)
  rw [b6c,← b6W Rm.cs hx]
  have hs:(i+1)*136≤70368744177664:=by omega
  have hs2:i+1≤70368744177664:=by omega
  simp (disch:=omega) only [f4,l7,hi,d6 hx,Rm.cs,o3]
  rw [b4 (e4Y c0) (e4Z c0)]
  simp only [f4,l7,i6,Nat.le_refl,hs,hs2,e8X]
 ·rw [b6c]
  simp only [p8,Nat.lt_irrefl,decide_false,cond_false,List.take_length]
theorem a5J:d8 prog P6 P5:=g8 b7Q fun x hx =>
 b9 (φ:=c2P) (a9 e8Y (a9 d8g b5)) d9 (kp:=a3u) (n:=x.rooms.length+1) func39 (c:=d3 a5H) (by kernel_rfl) (d3U x hx) (b8 (by kernel_rfl))
theorem d3V (m:Ml) (h:p9 m):body prog (b3 [(a4q,a4p)]) a3v (m.rooms.length+1) a5I (w5 m)=some (erR 1 (E2 m).cs):=by
 have hlm:=lm
 obtain ⟨h0,h2⟩:ok_RmS m.rooms∧m6 m.log:=h
 have hl:m.rooms.length≤LM:=h0.1
 have ht:m.log.length≤LM:=h2
 unfold w5 E2
 rw [d8m]
 have q3:m.log.length*8≤70368744177664:=by omega
 have q4:m.log.length≤70368744177664:=by omega
 simp only [f4,i6,Nat.le_refl,q3,q4]
 have hst:a2r m 0 (i4 []) 0=(fun i:Nat=>a2r m i (atL Rm.cs (m.rooms.take i)) (i:Nat)) 0:=by
  rw [a2h Rm.cs];rfl
 rw [hst,v5 m.rooms.length (fun i:Nat=>a2r m i (atL Rm.cs (m.rooms.take i)) (i:Nat)) (b0D m m.rooms.length (atL Rm.cs m.rooms) m.rooms.length) 0 (fun i K hi=>?_) (fun K=>?_) _ (Nat.le_refl _)]
 ·rw [c4I]
  have e2:n6 0 (i4 []) (n7 (atL b6 m.log))=atL b6 m.log:=by rw [a4n,b0B]
  simp only [f4,i6,Nat.le_refl,e2]
  rfl
 ·have hx:=List.getElem?_eq_getElem hi
  obtain ⟨x,hxe⟩:∃ x,x=m.rooms[i]:=⟨_,rfl⟩
  rw [← hxe] at hx
  have c0:a0P x:=h0.2 _ (List.mem_of_getElem? hx)
  rw [b6d,← b6W Rm.cs hx]
  have hs:(i+1)*136≤70368744177664:=by omega
  have hs2:i+1≤70368744177664:=by omega
  simp (disch:=omega) only [f4,l7,hi,d6 hx,Rm.cs,o3]
  rw [b4 (d1I c0) (d1J c0)]
  simp only [f4,l7,i6,Nat.le_refl,hs,hs2,d5J]
 ·rw [b6d]
  simp only [p8,Nat.lt_irrefl,decide_false,cond_false,List.take_length]
theorem a5K:d8 prog C8 C7:=g8 b7R fun x hx =>
 b9 (φ:=(b3 [(a4q,a4p)])) (a9 d5K b5) d9 (kp:=a3v) (n:=x.rooms.length+1) func32 (c:=d3 a5I) (by kernel_rfl) (d3V x hx) (b8 (by kernel_rfl))
end Go.Mach.F
namespace Go.Mach.F
open Go Go.Mach Go.Proofs.Tryz Go.IntKind
--=set_option maxRecDepth 100000
def c4J (r:Rf):Bool:=((decide (0≤r.h.slot)&&decide (1≤r.h.gen))&&decide (0≤r.ep))&&decide (0≤r.no)
def thg (m:Ml) (r:Rf):Int × Int:=bif c4J r then (bif decide (rof m.rooms r.h < 0) then (-1,2) else bif decide ((m.rooms.getD (rof m.rooms r.h).toNat zRm).ep=r.ep)&&decide (r.no < ((m.rooms.getD (rof m.rooms r.h).toNat zRm).things.length:Int)) then (rof m.rooms r.h,0) else (-1,2)) else (-1,1)
def a2s (x:Ml × Rf):Prop:=x.1.rooms.length≤LM
def a1n (x:Ml × Rf):List Arg:=[aR x.1.cs,aR x.2.cs]
def b2k (x:Ml × Rf):Int × Int:=thg x.1 x.2
noncomputable def d1S:Ent:=ent [] a2s a1n (fun (x:Int × Int)=>([oT (.int .i64 x.1),oT (.int .i64 x.2)],[nul,nul])) b2k
theorem c1E (x y:Ml × Rf) (h:a1n x=a1n y):x=y:=by
 obtain ⟨m1,r1⟩:=x
 obtain ⟨m2,r2⟩:=y
 simp only [a1n,List.cons.injEq,and_true,true_and] at h
 obtain ⟨e0,e1⟩:=h
 obtain rfl:=Ml.cs_ext (j6 e0)
 obtain rfl:=Rf.cs_ext (j6 e1)
 rfl
theorem d5L {m:Ml} {r:Rf} (h:a2s (m,r)):dom a2s a1n [(wMl m),(wRf r)]=true:=i3 (ea:=a1n) (x:=(m,r)) h
theorem d5M {m:Ml} {r:Rf} (h:a2s (m,r)):inv a2s a1n [(wMl m),(wRf r)]=(m,r):=g9 c1E (x:=(m,r)) h
theorem e1u (m:Ml) (r:Rf):b2k (m,r)=thg m r:=rfl
def d1T:Nat:=142
noncomputable abbrev d1U:Func:=f142
def c6E:List (Nat × List Nat):=[(0,kq [5,7,34,36,38,40,42,44,46,48,50,56,58,60,62,64,66,68,70,72,74]),(1,kq [5,7,18,34,36,38,40,42,44,46,48,50,56,58,60,62,64,66,68,70,72,74]),(2,[16,20]),(3,kq [5,7,12,34,36,38,40,42,44,46,48,50,56,58,60,62,64,66,68,70,72,74]),(4,[24,152]),(5,[16,20]),(6,[16,20])]
noncomputable abbrev e5f:Sems:=b3 [(e1m,e1o),(Q8,Q7)]
theorem e5g (m:Ml) (r:Rf) (n:Nat):body prog e5f c6E n d1U [aR m.cs,aR r.cs]=(bif decide (0≤r.h.1) then bif decide (1≤r.h.2) then bif decide (0≤r.2) then bif !decide (0≤r.3) then some ([(false,[.tr true (T.int i64 (-1))]),(false,[.tr true (T.int i64 1)])],(nu 2)) else d7 z3 B7 (W5) [(wMl m),(wHd r.h)] fun (r1:Int)=>bif decide (r1 < 0) then some ([(false,[.tr true (T.int i64 (-1))]),(false,[.tr true (T.int i64 2)])],(nu 2)) else gd (decide (0≤r1)&&(r1.toNat.blt m.2.length&&true))<|gd (T.isI i64 (atL Rm.cs m.2 r1.toNat 5))<|bif (atL Rm.cs m.2 r1.toNat 5).toI != r.2 then some ([(false,[.tr true (T.int i64 (-1))]),(false,[.tr true (T.int i64 2)])],(nu 2)) else gd (decide (0≤r1)&&(r1.toNat.blt m.2.length&&true))<|gd ((atL Rm.cs m.2 r1.toNat 9).isArr&&(atL Rm.cs m.2 r1.toNat 9).wd.beq 1)<|bif decide ((↑(atL Rm.cs m.2 r1.toNat 9).ln:Int)≤r.3) then some ([(false,[.tr true (T.int i64 (-1))]),(false,[.tr true (T.int i64 2)])],(nu 2)) else some ([(false,[.tr true (T.int i64 r1)]),(false,[.tr true (T.int i64 0)])],(nu 2)) else some ([(false,[.tr true (T.int i64 (-1))]),(false,[.tr true (T.int i64 1)])],(nu 2)) else some ([(false,[.tr true (T.int i64 (-1))]),(false,[.tr true (T.int i64 1)])],(nu 2)) else some ([(false,[.tr true (T.int i64 (-1))]),(false,[.tr true (T.int i64 1)])],(nu 2))):=by kernel_rfl
def a2t (x:Ml × Rf):Prop:=x.1.rooms.length≤LM
def a1o (x:Ml × Rf):List Arg:=[aR x.1.cs,aR x.2.cs]
def b2l (x:Ml × Rf):Int × Int:=thg x.1 x.2
noncomputable def d1V:Ent:=ent [] a2t a1o (fun (x:Int × Int)=>([oT (.int .i64 x.1),oT (.int .i64 x.2)],[nul,nul])) b2l
theorem c1F (x y:Ml × Rf) (h:a1o x=a1o y):x=y:=by
 obtain ⟨m1,r1⟩:=x
 obtain ⟨m2,r2⟩:=y
 simp only [a1o,List.cons.injEq,and_true,true_and] at h
 obtain ⟨e0,e1⟩:=h
 obtain rfl:=Ml.cs_ext (j6 e0)
 obtain rfl:=Rf.cs_ext (j6 e1)
 rfl
theorem d5N {m:Ml} {r:Rf} (h:a2t (m,r)):dom a2t a1o [(wMl m),(wRf r)]=true:=i3 (ea:=a1o) (x:=(m,r)) h
theorem d5O {m:Ml} {r:Rf} (h:a2t (m,r)):inv a2t a1o [(wMl m),(wRf r)]=(m,r):=g9 c1F (x:=(m,r)) h
theorem e1v (m:Ml) (r:Rf):b2l (m,r)=thg m r:=rfl
def d1W:Nat:=120
noncomputable abbrev d1X:Func:=f120
def c6F:List (Nat × List Nat):=[(0,kq [5,7,34,36,38,40,42,44,46,48,50,56,58,60,62,64,66,68,70,72,74]),(1,kq [5,7,18,34,36,38,40,42,44,46,48,50,56,58,60,62,64,66,68,70,72,74]),(2,[16,20]),(3,kq [5,7,12,34,36,38,40,42,44,46,48,50,56,58,60,62,64,66,68,70,72,74]),(4,[24,152]),(5,[16,20]),(6,[16,20])]
noncomputable abbrev e5h:Sems:=b3 [(e1p,e1r),(Q6,Q5)]
theorem e5i (m:Ml) (r:Rf) (n:Nat):body prog e5h c6F n d1X [aR m.cs,aR r.cs]=(bif decide (0≤r.h.1) then bif decide (1≤r.h.2) then bif decide (0≤r.2) then bif !decide (0≤r.3) then some ([(false,[.tr true (T.int i64 (-1))]),(false,[.tr true (T.int i64 1)])],(nu 2)) else d7 u5 w9 (H2) [(wMl m),(wHd r.h)] fun (r1:Int)=>bif decide (r1 < 0) then some ([(false,[.tr true (T.int i64 (-1))]),(false,[.tr true (T.int i64 2)])],(nu 2)) else gd (decide (0≤r1)&&(r1.toNat.blt m.2.length&&true))<|gd (T.isI i64 (atL Rm.cs m.2 r1.toNat 5))<|bif (atL Rm.cs m.2 r1.toNat 5).toI != r.2 then some ([(false,[.tr true (T.int i64 (-1))]),(false,[.tr true (T.int i64 2)])],(nu 2)) else gd (decide (0≤r1)&&(r1.toNat.blt m.2.length&&true))<|gd ((atL Rm.cs m.2 r1.toNat 9).isArr&&(atL Rm.cs m.2 r1.toNat 9).wd.beq 1)<|bif decide ((↑(atL Rm.cs m.2 r1.toNat 9).ln:Int)≤r.3) then some ([(false,[.tr true (T.int i64 (-1))]),(false,[.tr true (T.int i64 2)])],(nu 2)) else some ([(false,[.tr true (T.int i64 r1)]),(false,[.tr true (T.int i64 0)])],(nu 2)) else some ([(false,[.tr true (T.int i64 (-1))]),(false,[.tr true (T.int i64 1)])],(nu 2)) else some ([(false,[.tr true (T.int i64 (-1))]),(false,[.tr true (T.int i64 1)])],(nu 2)) else some ([(false,[.tr true (T.int i64 (-1))]),(false,[.tr true (T.int i64 1)])],(nu 2))):=by kernel_rfl
end Go.Mach.F
namespace Go.Mach.F
open Go Go.Mach Go.Proofs.Tryz
theorem e1w (m:Ml) (r:Rf) (n:Nat) (h:a2s (m,r)):body prog e5f c6E n d1U (a1n (m,r))=some ([oT (.int .i64 (b2k (m,r)).1),oT (.int .i64 (b2k (m,r)).2)],[nul,nul]):=by
 have hlm:=lm
 have hl:m.rooms.length≤LM:=h
 have c0:z3 (m,r.h):=hl
 unfold a1n b2k thg c4J
 dsimp only
 rw [e5g]
 by_cases a1:0≤r.h.slot
 case neg =>
  simp only [a1,decide_false,cond_false,Bool.false_and]
  rfl
 by_cases a2:1≤r.h.gen
 case neg =>
  simp only [a1,a2,decide_true,decide_false,cond_true,cond_false,Bool.and_false,Bool.false_and]
  rfl
 by_cases a3:0≤r.ep
 case neg =>
  simp only [a1,a2,a3,decide_true,decide_false,cond_true,cond_false,Bool.and_false,Bool.false_and,Bool.and_self]
  rfl
 by_cases a4:0≤r.no
 case neg =>
  simp only [a1,a2,a3,a4,decide_true,decide_false,cond_true,cond_false,Bool.and_false,Bool.false_and,Bool.and_self,Bool.not_false]
  rfl
 simp only [a1,a2,a3,a4,decide_true,cond_true,Bool.and_self,Bool.not_true,cond_false,l7,Ml.cs,Hd.cs,f4]
 rw [b4 (a1U c0) (a1V c0)]
 simp only [a3o]
 by_cases e:rof m.rooms r.h < 0
 ·simp only [e,decide_true,cond_true]
  rfl
 ·have e1:=a4S e
  obtain ⟨x,hre⟩:∃ x,x=m.rooms.getD (rof m.rooms r.h).toNat zRm:=⟨_,rfl⟩
  have hx:=A2 e1.2
  rw [← hre] at hx ⊢
  simp only [f4,e,decide_false,cond_false,e1.1,e1.2,d6 hx,Rm.cs,l7,w7]
  by_cases e2:x.ep=r.ep
  ·by_cases e3:r.no < (x.things.length:Int)
   ·have e4:¬ (x.things.length:Int)≤r.no:=by omega
    simp only [e2,e3,e4,decide_true,decide_false,Bool.not_true,cond_false,cond_true,Bool.and_self]
    rfl
   ·have e4:(x.things.length:Int)≤r.no:=by omega
    simp only [e2,e3,e4,decide_true,decide_false,Bool.not_true,cond_false,cond_true,Bool.and_false]
    rfl
  ·simp only [e2,decide_false,Bool.not_false,cond_true,cond_false,Bool.false_and]
   rfl
theorem e1x:d8 prog d1T d1S:=g8 c1E fun x hx =>
 b9 (φ:=e5f) (a9 f1D (a9 a9W b5)) d9 (kp:=c6E) (n:=0) func142 (c:=d3 d1U) (by kernel_rfl) (e1w x.1 x.2 (0) hx) (b8 (by kernel_rfl))
theorem e1y (m:Ml) (r:Rf) (n:Nat) (h:a2t (m,r)):body prog e5h c6F n d1X (a1o (m,r))=some ([oT (.int .i64 (b2l (m,r)).1),oT (.int .i64 (b2l (m,r)).2)],[nul,nul]):=by
 have hlm:=lm
 have hl:m.rooms.length≤LM:=h
 have c0:u5 (m,r.h):=hl
 unfold a1o b2l thg c4J
 dsimp only
 rw [e5i]
 by_cases a1:0≤r.h.slot
 case neg =>
  simp only [a1,decide_false,cond_false,Bool.false_and]
  rfl
 by_cases a2:1≤r.h.gen
 case neg =>
  simp only [a1,a2,decide_true,decide_false,cond_true,cond_false,Bool.and_false,Bool.false_and]
  rfl
 by_cases a3:0≤r.ep
 case neg =>
  simp only [a1,a2,a3,decide_true,decide_false,cond_true,cond_false,Bool.and_false,Bool.false_and,Bool.and_self]
  rfl
 by_cases a4:0≤r.no
 case neg =>
  simp only [a1,a2,a3,a4,decide_true,decide_false,cond_true,cond_false,Bool.and_false,Bool.false_and,Bool.and_self,Bool.not_false]
  rfl
 simp only [a1,a2,a3,a4,decide_true,cond_true,Bool.and_self,Bool.not_true,cond_false,l7,Ml.cs,Hd.cs,f4]
 rw [b4 (a1S c0) (a1T c0)]
 simp only [a3n]
 by_cases e:rof m.rooms r.h < 0
 ·simp only [e,decide_true,cond_true]
  rfl
 ·have e1:=a4S e
  obtain ⟨x,hre⟩:∃ x,x=m.rooms.getD (rof m.rooms r.h).toNat zRm:=⟨_,rfl⟩
  have hx:=A2 e1.2
  rw [← hre] at hx ⊢
  simp only [f4,e,decide_false,cond_false,e1.1,e1.2,d6 hx,Rm.cs,l7,w7]
  by_cases e2:x.ep=r.ep
  ·by_cases e3:r.no < (x.things.length:Int)
   ·have e4:¬ (x.things.length:Int)≤r.no:=by omega
    simp only [e2,e3,e4,decide_true,decide_false,Bool.not_true,cond_false,cond_true,Bool.and_self]
    rfl
   ·have e4:(x.things.length:Int)≤r.no:=by omega
    simp only [e2,e3,e4,decide_true,decide_false,Bool.not_true,cond_false,cond_true,Bool.and_false]
    rfl
  ·simp only [e2,decide_false,Bool.not_false,cond_true,cond_false,Bool.false_and]
   rfl
theorem e1z:d8 prog d1W d1V:=g8 c1F fun x hx =>
 b9 (φ:=e5h) (a9 f1E (a9 a9V b5)) d9 (kp:=c6F) (n:=0) func120 (c:=d3 d1X) (by kernel_rfl) (e1y x.1 x.2 (0) hx) (b8 (by kernel_rfl))
end Go.Mach.F
namespace Go.Mach.F
open Go Go.Mach Go.Proofs.Tryz
--=set_option maxRecDepth 100000
theorem Pl.cs_inj (x y:Pl) (h:∀ k,x.cs.getD k .hole=y.cs.getD k .hole):x=y:=by
 have h0:=h 0;have h1:=h 1;have h2:=h 2
 rcases x with ⟨x0,x1,x2⟩
 rcases y with ⟨y0,y1,y2⟩
 simp only [Pl.cs,List.getD_cons_zero,List.getD_cons_succ,T.int.injEq,T.bool.injEq,true_and] at h0 h1 h2
 replace h0:=P1 h0
 replace h1:=J3 h1
 replace h2:=J3 h2
 subst h0;subst h1;subst h2
 rfl
theorem Pl.cs_ext {x y:Pl} (h:x.cs=y.cs):x=y:=Pl.cs_inj x y fun k=>by rw [h]
theorem Wd.cs_inj (x y:Wd) (h:∀ k,x.cs.getD k .hole=y.cs.getD k .hole):x=y:=by
 have h0:=h 0;have h1:=h 1;have h2:=h 2;have h3:=h 3;have h4:=h 4;have h5:=h 5;have h6:=h 6;have h7:=h 7;have h8:=h 8;have h9:=h 9;have h10:=h 10;have h11:=h 11
 rcases x with ⟨⟨x0,x1,x2,x3,x4,x5⟩,⟨x6,x7,x8⟩,x9,x10,x11⟩
 rcases y with ⟨⟨y0,y1,y2,y3,y4,y5⟩,⟨y6,y7,y8⟩,y9,y10,y11⟩
 simp only [Wd.cs,List.getD_cons_zero,List.getD_cons_succ,T.int.injEq,T.bool.injEq,true_and] at h0 h1 h2 h3 h4 h5 h6 h7 h8 h9 h10 h11
 replace h6:=P1 h6
 replace h7:=J3 h7
 replace h8:=J3 h8
 replace h9:=m8 Nd.cs_inj h9
 replace h10:=m8 Ws.cs_inj h10
 replace h11:=J3 h11
 subst h0;subst h1;subst h2;subst h3;subst h4;subst h5;subst h6;subst h7;subst h8;subst h9;subst h10;subst h11
 rfl
theorem Wd.cs_ext {x y:Wd} (h:x.cs=y.cs):x=y:=Wd.cs_inj x y fun k=>by rw [h]
end Go.Mach.F
namespace Go.Mach.F
open Go Go.Mach Go.Proofs.Tryz Go.IntKind
--=set_option maxRecDepth 100000
theorem d1Y (x:Int) (j k':Nat):(Option.rec (motive:=fun _=>T) T.hole (fun val=>val) ([[T.int i64 x]].getD j [])[k']?:T)=i4 [[T.int i64 x]] j k':=by
 unfold i4
 generalize [[T.int i64 x]].getD j []=q
 rw [List.getD_eq_getElem?_getD]
 cases q[k']? <;> rfl
def a5L:Nat:=145
noncomputable abbrev d1Z:Func:=f145
def e1A:List (Nat × List Nat):=[(0,[0,4,8,44,48,52]),(1,[24])]
noncomputable def a5M:Ent:=inl [] prog (b3 []) e1A 0 d1Z
theorem b2m:d8 prog a5L a5M:=p6 b5 d9 (c:=d3 d1Z) func145 (by kernel_rfl) (b8 (by kernel_rfl))
end Go.Mach.F
namespace Go.Mach.F
open Go Go.Mach Go.Proofs.Tryz
--=set_option maxRecDepth 100000
def e1B:Nat:=190
noncomputable abbrev e1C:Func:=f190
def e9d:List (Nat × List Nat):=[(0,[0,4,8,40,44,48,60,64,68,72,76]),(1,[24])]
noncomputable def e1D:Ent:=inl [] prog (b3 [(a5L,a5M)]) e9d 0 e1C
theorem e1E:d8 prog e1B e1D:=p6 (a9 b2m b5) d9 (c:=d3 e1C) func190 (by kernel_rfl) (b8 (by kernel_rfl))
def c8g:Nat:=178
noncomputable abbrev c8h:Func:=f178
def d8n:List (Nat × List Nat):=[(0,[0,4,8,40,44,56,60,64,68,80,84,88,92,96,100]),(1,[24])]
noncomputable def c8i:Ent:=inl [] prog (b3 []) d8n 0 c8h
theorem c8j:d8 prog c8g c8i:=p6 b5 d9 (c:=d3 c8h) func178 (by kernel_rfl) (b8 (by kernel_rfl))
end Go.Mach.F
namespace Go.Mach.F
open Go Go.Mach Go.Proofs.Tryz
--=set_option maxRecDepth 100000
def a4V:Nat:=123
noncomputable abbrev e1F:Func:=f123
def e9e:List (Nat × List Nat):=[(0,[0,4,8,44,48,52]),(1,[24])]
noncomputable def a4W:Ent:=inl [] prog (b3 []) e9e 0 e1F
theorem b9C:d8 prog a4V a4W:=p6 b5 d9 (c:=d3 e1F) func123 (by kernel_rfl) (b8 (by kernel_rfl))
end Go.Mach.F
namespace Go.Mach.F
open Go Go.Mach Go.Proofs.Tryz Go.IntKind
--=set_option maxRecDepth 100000
def b9D (r:Rm) (k:Int):Rm:={ r with tags:=r.tags ++ [k] }
def a8N (m:Ml) (h:Hd) (k:Int):Ml × Int :=
 bif decide (0≤k)&&decide (k≤255) then (bif decide ((rsv m h).2=0) then (bif decide (6≤((m.rooms.getD (rsv m h).1.toNat zRm).tags.length:Int)) then (m,8)
  else (⟨m.c,m.rooms.set (rsv m h).1.toNat (b9D (m.rooms.getD (rsv m h).1.toNat zRm) k),m.log⟩,0)) else (m,(rsv m h).2)) else (m,1)
def T0 (x:Ml × Hd × Int):Prop:=ok_RmS x.1.rooms∧m6 x.1.log
def J5 (x:Ml × Hd × Int):List Arg:=[aR x.1.cs,aR x.2.1.cs,aI x.2.2]
def a2u (x:Ml × Hd × Int):Ml × Int:=a8N x.1 x.2.1 x.2.2
noncomputable def c1G:Ent:=ent [] T0 J5 (fun (x:Ml × Int)=>([oR x.1.cs,oT (.int .i64 x.2)],[nul,nul,nul])) a2u
theorem b2n (x y:Ml × Hd × Int) (h:J5 x=J5 y):x=y:=by
 obtain ⟨m1,h1,k1⟩:=x
 obtain ⟨m2,h2,k2⟩:=y
 simp only [J5,List.cons.injEq,and_true,true_and] at h
 obtain ⟨e0,e1,e2⟩:=h
 obtain rfl:=Ml.cs_ext (j6 e0)
 obtain rfl:=Hd.cs_ext (j6 e1)
 obtain rfl:=v9 e2
 rfl
theorem d2a {m:Ml} {h:Hd} {k:Int} (h0:T0 (m,h,k)):dom T0 J5 [(wMl m),(wHd h),(0,false,[C.tr false (T.int i64 k)])]=true:=i3 (ea:=J5) (x:=(m,h,k)) h0
theorem d2b {m:Ml} {h:Hd} {k:Int} (h0:T0 (m,h,k)):inv T0 J5 [(wMl m),(wHd h),(0,false,[C.tr false (T.int i64 k)])]=(m,h,k):=g9 b2n (x:=(m,h,k)) h0
theorem d3W (m:Ml) (h:Hd) (k:Int):a2u (m,h,k)=a8N m h k:=rfl
def c1H:Nat:=89
noncomputable abbrev b4Q:Func:=f89
def b2o:List (Nat × List Nat):=[(0,kq [4,7,9,13,17,24,32,52,74,104]),(1,kq [4,7,9,13,17,24,32,52,74,104]),(2,kq [4,7,9,13,17,24,30,32,52,74,104]),(3,kq [13,14,17,24,32,52,74,104]),(4,kq [4,7,13,17,18,20,24,32,52,74,104]),(5,kq [4,7,13,17,18,20,24,32,46,52,74,104]),(6,kq [13,14,17,24,32,52,74,104]),(7,kq [4,13,17,18,24,32,52,56,74,104]),(8,kq [13,14,17,24,32,52,74,104]),(9,kq [13,17,24,32,52,74,104]),(10,kq [13,14,17,24,32,52,74,104])]
noncomputable abbrev e5j:Sems:=b3 [(P6,P5),(a5L,a5M),(a0E,a0D)]
theorem c8O (m:Ml) (h:Hd) (k:Int) (n:Nat):body prog e5j b2o n b4Q [aR m.cs,aR h.cs,aI k]=(d7 A9 F9 (Z2) [(wMl m)] fun (r1:Ml)=>let q1:=T.arr 11 r1.2.length (eL 11 Rm.cs r1.2).fn;gl r1.2.length<|gl r1.3.length<|bif decide (0≤k) then bif !decide (k≤255) then gl r1.2.length<|gl r1.3.length<|gl r1.2.length<|gl r1.3.length<|some ([(oR (Ml.cs r1)),(false,[.tr true (T.int i64 1)])],(nu 3)) else d7 Q1 T9 (a4T) [(wMl m),(wHd h)] fun (r2:Int × Int)=>let q0:=atL Rm.cs r1.2 (0+r2.1.toNat) (10+0);bif r2.2 != 0 then gl r1.2.length<|gl r1.3.length<|gl r1.2.length<|gl r1.3.length<|some ([(oR (Ml.cs r1)),(false,[.tr true (T.int i64 r2.2)])],(nu 3)) else gd (decide (0≤r2.1)&&(r2.1.toNat.blt m.2.length&&true))<|gd ((atL Rm.cs m.2 r2.1.toNat 10).isArr&&(atL Rm.cs m.2 r2.1.toNat 10).wd.beq 1)<|bif decide (6≤(↑(atL Rm.cs m.2 r2.1.toNat 10).ln:Int)) then gl r1.2.length<|gl r1.3.length<|gl r1.2.length<|gl r1.3.length<|some ([(oR (Ml.cs r1)),(false,[.tr true (T.int i64 8)])],(nu 3)) else gd (decide (0≤r2.1)&&(r2.1.toNat.blt r1.2.length&&true))<|gd ((0+r2.1.toNat).blt r1.2.length&&true&&(q0.isArr&&q0.wd.beq 1))<|gd ((0+r2.1.toNat).blt r1.2.length&&true&&true&&(q1.get [0+r2.1.toNat,10+0]).isArr)<|gd (q0.ln.ble (q1.get [0+r2.1.toNat,10+0]).ln&&Nat.beq 1 (q1.get [0+r2.1.toNat,10+0]).wd)<|gd (((q0.ln+1)*8).ble 70368744177664&&(q0.ln+1).ble 70368744177664)<|gd (decide (0≤r2.1)&&(r2.1.toNat.blt r1.2.length&&true))<|gd ((q0.ln+1).ble (q0.ln+1)&&true)<|gd ((0+r2.1.toNat).blt r1.2.length&&true&&true)<|gl r1.2.length<|gl r1.3.length<|gl r1.2.length<|gl r1.3.length<|some ([(true,[.tr true (T.int i64 r1.c.1),.tr true (T.int i64 r1.c.2),.tr true (T.int i64 r1.c.3),.tr true (T.int i64 r1.c.4),.tr true (T.int i64 r1.c.5),.tr true (T.int i64 r1.c.6),.tr true (.arr (11) (r1.2.length) (b7 (0+r2.1.toNat) 10 (T.arr 1 ((atL Rm.cs r1.2 (0+r2.1.toNat) 10).ln+1) (n6 (atL Rm.cs r1.2 (0+r2.1.toNat) 10).ln (q1.get [0+r2.1.toNat,10]).fn (n7 (l3 0 1 (i4 [[T.int i64 k]]))))) (b7 (0+r2.1.toNat) 10 T.hole (eL 11 Rm.cs r1.2).fn))),.tr true (.arr (1) (r1.3.length) ((eL 1 b6 r1.3).fn))]),(false,[.tr true (T.int i64 0)])],(nu 3)) else gl r1.2.length<|gl r1.3.length<|gl r1.2.length<|gl r1.3.length<|some ([(oR (Ml.cs r1)),(false,[.tr true (T.int i64 1)])],(nu 3))):=by kernel_rfl
def T1 (x:Ml × Hd × Int):Prop:=ok_RmS x.1.rooms∧m6 x.1.log
def J6 (x:Ml × Hd × Int):List Arg:=[aR x.1.cs,aR x.2.1.cs,aI x.2.2]
def a2v (x:Ml × Hd × Int):Ml × Int:=a8N x.1 x.2.1 x.2.2
noncomputable def c1I:Ent:=ent [] T1 J6 (fun (x:Ml × Int)=>([oR x.1.cs,oT (.int .i64 x.2)],[nul,nul,nul])) a2v
theorem b2p (x y:Ml × Hd × Int) (h:J6 x=J6 y):x=y:=by
 obtain ⟨m1,h1,k1⟩:=x
 obtain ⟨m2,h2,k2⟩:=y
 simp only [J6,List.cons.injEq,and_true,true_and] at h
 obtain ⟨e0,e1,e2⟩:=h
 obtain rfl:=Ml.cs_ext (j6 e0)
 obtain rfl:=Hd.cs_ext (j6 e1)
 obtain rfl:=v9 e2
 rfl
theorem d2c {m:Ml} {h:Hd} {k:Int} (h0:T1 (m,h,k)):dom T1 J6 [(wMl m),(wHd h),(0,false,[C.tr false (T.int i64 k)])]=true:=i3 (ea:=J6) (x:=(m,h,k)) h0
theorem d2d {m:Ml} {h:Hd} {k:Int} (h0:T1 (m,h,k)):inv T1 J6 [(wMl m),(wHd h),(0,false,[C.tr false (T.int i64 k)])]=(m,h,k):=g9 b2p (x:=(m,h,k)) h0
theorem d3X (m:Ml) (h:Hd) (k:Int):a2v (m,h,k)=a8N m h k:=rfl
def c1J:Nat:=75
noncomputable abbrev b4R:Func:=f75
def b2q:List (Nat × List Nat):=[(0,kq [4,7,9,13,17,24,32,52,54,56,58,60,62,64,66,102]),(1,kq [4,7,9,13,17,24,32,52,54,56,58,60,62,64,66,102]),(2,kq [4,7,9,13,17,24,30,32,52,54,56,58,60,62,64,66,102]),(3,kq [13,14,17,24,32,102]),(4,kq [4,7,13,17,18,20,24,32,52,54,56,58,60,62,64,66,102]),(5,kq [4,13,17,18,20,24,32,68,102]),(6,kq [4,13,17,18,20,24,32,102]),(7,kq [4,13,17,18,20,24,32,72,102]),(8,kq [13,17,20,24,32,102]),(9,kq [13,14,17,24,32,102])]
noncomputable abbrev e5k:Sems:=b3 [(C8,C7),(a4V,a4W),(L0,K9)]
theorem c8P (m:Ml) (h:Hd) (k:Int) (n:Nat):body prog e5k b2q n b4R [aR m.cs,aR h.cs,aI k]=(d7 p9 w5 (E2) [(wMl m)] fun (r1:Ml)=>let q2:=T.arr 11 r1.2.length (eL 11 Rm.cs r1.2).fn;gl r1.2.length<|gl r1.3.length<|bif decide (0≤k) then bif !decide (k≤255) then gl r1.2.length<|gl r1.3.length<|gl r1.2.length<|gl r1.3.length<|some ([(oR (Ml.cs r1)),(false,[.tr true (T.int i64 1)])],(nu 3)) else d7 Q2 U0 (a4U) [(wMl m),(wHd h)] fun (r2:Int × Int)=>let q0:=atL Rm.cs r1.2 (0+r2.1.toNat) 10;let q1:=atL Rm.cs r1.2 (0+r2.1.toNat) (10+0);let q3:=n6 q0.ln (q2.get [0+r2.1.toNat,10]).fn (n7 (l3 0 1 (i4 [[T.int i64 k]])));let q4:=b7 (0+r2.1.toNat) 10 (T.arr 1 (q0.ln+1) q3) (b7 (0+r2.1.toNat) 10 T.hole (eL 11 Rm.cs r1.2).fn);bif r2.2==0 then gd (decide (0≤r2.1)&&(r2.1.toNat.blt m.2.length&&true))<|gd ((atL Rm.cs m.2 r2.1.toNat 10).isArr&&(atL Rm.cs m.2 r2.1.toNat 10).wd.beq 1)<|bif decide (6≤(↑(atL Rm.cs m.2 r2.1.toNat 10).ln:Int)) then gl r1.2.length<|gl r1.3.length<|gl r1.2.length<|gl r1.3.length<|some ([(oR (Ml.cs r1)),(false,[.tr true (T.int i64 8)])],(nu 3)) else bif r2.2==0 then gd (decide (0≤r2.1)&&(r2.1.toNat.blt r1.2.length&&true))<|gd ((0+r2.1.toNat).blt r1.2.length&&true&&(q1.isArr&&q1.wd.beq 1))<|gd ((0+r2.1.toNat).blt r1.2.length&&true&&true&&(q2.get [0+r2.1.toNat,10+0]).isArr)<|gd (q1.ln.ble (q2.get [0+r2.1.toNat,10+0]).ln&&Nat.beq 1 (q2.get [0+r2.1.toNat,10+0]).wd)<|gd (((q1.ln+1)*8).ble 70368744177664&&(q1.ln+1).ble 70368744177664)<|gd (decide (0≤r2.1)&&(r2.1.toNat.blt r1.2.length&&true))<|gd ((q1.ln+1).ble (q1.ln+1)&&true)<|gd ((0+r2.1.toNat).blt r1.2.length&&true&&true)<|gl r1.2.length<|gl r1.3.length<|gl r1.2.length<|gl r1.3.length<|some ([(true,[.tr true (T.int i64 r1.c.1),.tr true (T.int i64 r1.c.2),.tr true (T.int i64 r1.c.3),.tr true (T.int i64 r1.c.4),.tr true (T.int i64 r1.c.5),.tr true (T.int i64 r1.c.6),.tr true (.arr (11) (r1.2.length) q4),.tr true (.arr (1) (r1.3.length) ((eL 1 b6 r1.3).fn))]),(false,[.tr true (T.int i64 r2.2)])],(nu 3)) else gl r1.2.length<|gl r1.3.length<|gl r1.2.length<|gl r1.3.length<|some ([(oR (Ml.cs r1)),(false,[.tr true (T.int i64 r2.2)])],(nu 3)) else bif r2.2==0 then gd (decide (0≤r2.1)&&(r2.1.toNat.blt r1.2.length&&true))<|gd ((0+r2.1.toNat).blt r1.2.length&&true&&(q1.isArr&&q1.wd.beq 1))<|gd ((0+r2.1.toNat).blt r1.2.length&&true&&true&&(q2.get [0+r2.1.toNat,10+0]).isArr)<|gd (q1.ln.ble (q2.get [0+r2.1.toNat,10+0]).ln&&Nat.beq 1 (q2.get [0+r2.1.toNat,10+0]).wd)<|gd (((q1.ln+1)*8).ble 70368744177664&&(q1.ln+1).ble 70368744177664)<|gd (decide (0≤r2.1)&&(r2.1.toNat.blt r1.2.length&&true))<|gd ((q1.ln+1).ble (q1.ln+1)&&true)<|gd ((0+r2.1.toNat).blt r1.2.length&&true&&true)<|gl r1.2.length<|gl r1.3.length<|gl r1.2.length<|gl r1.3.length<|some ([(true,[.tr true (T.int i64 r1.c.1),.tr true (T.int i64 r1.c.2),.tr true (T.int i64 r1.c.3),.tr true (T.int i64 r1.c.4),.tr true (T.int i64 r1.c.5),.tr true (T.int i64 r1.c.6),.tr true (.arr (11) (r1.2.length) q4),.tr true (.arr (1) (r1.3.length) ((eL 1 b6 r1.3).fn))]),(false,[.tr true (T.int i64 r2.2)])],(nu 3)) else gl r1.2.length<|gl r1.3.length<|gl r1.2.length<|gl r1.3.length<|some ([(oR (Ml.cs r1)),(false,[.tr true (T.int i64 r2.2)])],(nu 3)) else gl r1.2.length<|gl r1.3.length<|gl r1.2.length<|gl r1.3.length<|some ([(oR (Ml.cs r1)),(false,[.tr true (T.int i64 1)])],(nu 3))):=by kernel_rfl
end Go.Mach.F
namespace Go.Mach.F
open Go Go.Mach Go.Proofs.Tryz
theorem a3w (j k:Nat) (u v:T) (f:Nat→Nat→T):b7 j k v (b7 j k u f)=b7 j k v f:=by
 funext j' k'
 simp only [A6]
 by_cases h:j'=j∧k'=k
 ·rw [if_pos h,if_pos h]
 ·rw [if_neg h,if_neg h,if_neg h]
theorem w6 {α:Type} {row:α→List T} {l:List α} {j k:Nat} {v:T} {x y:α} (hx:l[j]?=some x) (hy:row y=(row x).set k v) (hk:k < (row x).length):b7 j k v (atL row l)=atL row (l.set j y):=by
 refine R7 (List.getElem?_eq_some_iff.1 hx).1 fun j' k'=>?_
 rw [A6,hy]
 by_cases h:j'=j
 ·subst h
  by_cases h2:k'=k
  ·subst h2
   rw [if_pos ⟨rfl,rfl⟩,if_pos rfl,List.getD_eq_getElem?_getD,List.getElem?_set_self hk]
   rfl
  ·rw [if_neg fun e=>h2 e.2,if_pos rfl,d6 hx,List.getD_eq_getElem?_getD,List.getD_eq_getElem?_getD,List.getElem?_set_ne (Ne.symm h2)]
 ·rw [if_neg fun e=>h e.1,if_neg h]
theorem U5 {α:Type} (row:α→List T) (l l':List α):n6 l.length (atL row l) (atL row l')=atL row (l ++ l'):=by
 funext j k
 unfold n6
 rw [V6,Bool.cond_decide]
 by_cases h:j < l.length
 ·rw [if_pos h]
  unfold atL
  rw [List.getElem?_append_left h]
 ·rw [if_neg h]
  unfold atL
  rw [List.getElem?_append_right (by omega)]
theorem a9x {α:Type} (row:α→List T) (x:α):i4 [row x]=atL row [x]:=by
 funext j k
 cases j with
 | zero=>rfl
 | succ j=>simp [i4,atL]
theorem d2e (x:Int):n7 (l3 0 1 (i4 [[T.int .i64 x]]))=atL b6 [x]:=by
 rw [show [T.int .i64 x]=b6 x from rfl,a9x,show l3 0 1 (atL b6 [x])=atL b6 [x] from G8 b6 [x],a4n]
theorem c6G (m:Ml) (h:Hd) (k:Int) (n:Nat) (h0:T0 (m,h,k)):body prog e5j b2o n b4Q (J5 (m,h,k))=some ([oR (a2u (m,h,k)).1.cs,oT (.int .i64 (a2u (m,h,k)).2)],[nul,nul,nul]):=by
 have hlm:=lm
 obtain ⟨h1,h2⟩:ok_RmS m.rooms∧m6 m.log:=h0
 have hl:m.rooms.length≤LM:=h1.1
 have c0:A9 m:=⟨h1,h2⟩
 have c1:Q1 (m,h):=hl
 unfold J5 a2u a8N
 dsimp only
 rw [c8O]
 try simp only [l7,Ml.cs,Hd.cs]
 rw [b4 (a3s c0) (a3t c0)]
 simp only [a5G,f4,i6,Nat.le_refl]
 by_cases a1:0≤k
 case neg =>
  simp only [a1,decide_false,cond_false,Bool.false_and]
  rfl
 by_cases a2:k≤255
 case neg =>
  simp only [a1,a2,decide_true,decide_false,cond_true,cond_false,Bool.and_false,Bool.not_false]
  rfl
 simp only [a1,a2,decide_true,cond_true,Bool.and_self,Bool.not_true,cond_false]
 rw [b4 (b5Y c1) (b5Z c1)]
 simp only [b9y,w7,A1]
 by_cases e:(rsv m h).2=0
 case neg =>
  simp only [e,decide_false,Bool.not_false,cond_true,cond_false]
  rfl
 have hk:=a3r e
 have hx:=A2 hk.2
 obtain ⟨x,hxe⟩:∃ x,x=m.rooms.getD (rsv m h).1.toNat zRm:=⟨_,rfl⟩
 rw [← hxe] at hx ⊢
 have hy:=h1.2 _ (List.mem_of_getElem? hx)
 have hg:x.tags.length≤LM:=hy.2.2
 have e0:=hk.1
 have e1:=hk.2
 have s1:(x.tags.length+1)*8≤70368744177664:=by omega
 have s2:x.tags.length+1≤70368744177664:=by omega
 simp only [f4,e,e0,e1,Nat.add_zero,Bool.not_true,cond_false,d6 hx,Rm.cs,T.get,i6,Nat.le_refl,s1,s2]
 by_cases e2:6≤(x.tags.length:Int)
 ·simp only [e2,decide_true,cond_true,A1]
  rfl
 ·simp only [e2,decide_false,cond_false,d2e,U5,a3w]
  rw [w6 (y:=b9D x k) hx (by simp only [Rm.cs,b9D,l7,List.length_append];rfl) (by decide:10 < 11)]
  simp only [oR,Ml.cs,l7,List.length_set]
  rfl
theorem d3Y:d8 prog c1H c1G:=g8 b2n fun x hx =>
 b9 (φ:=e5j) (a9 a5J (a9 b2m (a9 b9A b5))) d9 (kp:=b2o) (n:=0) func89 (c:=d3 b4Q) (by kernel_rfl) (c6G x.1 x.2.1 x.2.2 (0) hx) (b8 (by kernel_rfl))
theorem c6H (m:Ml) (h:Hd) (k:Int) (n:Nat) (h0:T1 (m,h,k)):body prog e5k b2q n b4R (J6 (m,h,k))=some ([oR (a2v (m,h,k)).1.cs,oT (.int .i64 (a2v (m,h,k)).2)],[nul,nul,nul]):=by
 have hlm:=lm
 obtain ⟨h1,h2⟩:ok_RmS m.rooms∧m6 m.log:=h0
 have hl:m.rooms.length≤LM:=h1.1
 have c0:p9 m:=⟨h1,h2⟩
 have c1:Q2 (m,h):=hl
 unfold J6 a2v a8N
 dsimp only
 rw [c8P]
 try simp only [l7,Ml.cs,Hd.cs]
 rw [b4 (W7 c0) (W8 c0)]
 simp only [a0Q,f4,i6,Nat.le_refl]
 by_cases a1:0≤k
 case neg =>
  simp only [a1,decide_false,cond_false,Bool.false_and]
  rfl
 by_cases a2:k≤255
 case neg =>
  simp only [a1,a2,decide_true,decide_false,cond_true,cond_false,Bool.and_false,Bool.not_false]
  rfl
 simp only [a1,a2,decide_true,cond_true,Bool.and_self,Bool.not_true,cond_false]
 rw [b4 (b6a c1) (b6b c1)]
 simp only [b9z,w7,A1]
 by_cases e:(rsv m h).2=0
 case neg =>
  simp only [e,decide_false,Bool.not_false,cond_true,cond_false]
  rfl
 have hk:=a3r e
 have hx:=A2 hk.2
 obtain ⟨x,hxe⟩:∃ x,x=m.rooms.getD (rsv m h).1.toNat zRm:=⟨_,rfl⟩
 rw [← hxe] at hx ⊢
 have hy:=h1.2 _ (List.mem_of_getElem? hx)
 have hg:x.tags.length≤LM:=hy.2.2
 have e0:=hk.1
 have e1:=hk.2
 have s1:(x.tags.length+1)*8≤70368744177664:=by omega
 have s2:x.tags.length+1≤70368744177664:=by omega
 simp only [f4,e,e0,e1,Nat.add_zero,Bool.not_true,cond_false,d6 hx,Rm.cs,T.get,i6,Nat.le_refl,s1,s2]
 by_cases e2:6≤(x.tags.length:Int)
 ·simp only [e2,decide_true,cond_true,A1]
  rfl
 ·simp only [e2,decide_false,cond_false,d2e,U5,a3w]
  rw [w6 (y:=b9D x k) hx (by simp only [Rm.cs,b9D,l7,List.length_append];rfl) (by decide:10 < 11)]
  simp only [oR,Ml.cs,l7,List.length_set]
  rfl
theorem d3Z:d8 prog c1J c1I:=g8 b2p fun x hx =>
 b9 (φ:=e5k) (a9 a5K (a9 b9C (a9 b9B b5))) d9 (kp:=b2q) (n:=0) func75 (c:=d3 b4R) (by kernel_rfl) (c6H x.1 x.2.1 x.2.2 (0) hx) (b8 (by kernel_rfl))
end Go.Mach.F
namespace Go.Mach.F
open Go Go.Mach Go.Proofs.Tryz Go.IntKind
--=set_option maxRecDepth 100000
def tkn (l:List Rm):Int:=l.foldl (fun n r=>i64.wrap (n+r.chunks)) 0
def inR (n lo hi:Int):Bool:=decide (lo≤n)&&decide (n≤hi)
def b2r (y:Int):Bool:=decide (y=1) || (decide (y=2) || decide (y=4))
def aup (x y:Int):Int:=bif inR x 0 1000000000&&b2r y then i64.wrap (i64.wrap (Int.tdiv (i64.wrap (i64.wrap (x+y) - 1)) y)*y) else 0
def cdv (x y:Int):Int:=bif inR x 0 1000000000&&inR y 1 1000000000 then i64.wrap (Int.tdiv (i64.wrap (i64.wrap (x+y) - 1)) y) else 0
def zer (x:Int):List UInt8:=bif inR x 0 4096 then List.replicate x.toNat 0 else []
def d5P:Nat:=187
noncomputable abbrev d5Q:Func:=f187
def e5l:List (Nat × List Nat):=[(0,[0,24,28,40,44]),(1,[8])]
noncomputable def d5R:Ent:=inl [] prog (b3 []) e5l 0 d5Q
theorem d5S:d8 prog d5P d5R:=p6 b5 d9 (c:=d3 d5Q) func187 (by kernel_rfl) (b8 (by kernel_rfl))
def d5T:Nat:=172
noncomputable abbrev d5U:Func:=f172
def e5m:List (Nat × List Nat):=[(0,[0,24,28,40,44]),(1,[8])]
noncomputable def d5V:Ent:=inl [] prog (b3 []) e5m 0 d5U
theorem e9f:d8 prog d5T d5V:=p6 b5 d9 (c:=d3 d5U) func172 (by kernel_rfl) (b8 (by kernel_rfl))
def F0 (x:Ml):Prop:=x.rooms.length≤LM
def D3 (x:Ml):List Arg:=[aR x.cs]
def V8 (x:Ml):Int:=tkn x.rooms
noncomputable def b6Y:Ent:=ent [] F0 D3 (erI 1) V8
theorem b3T (x y:Ml) (h:D3 x=D3 y):x=y:=by
 simp only [D3,List.cons.injEq,and_true,true_and] at h
 exact Ml.cs_ext (j6 h)
theorem a4X {m:Ml} (h:F0 m):dom F0 D3 [(wMl m)]=true:=i3 (ea:=D3) (x:=m) h
theorem a4Y {m:Ml} (h:F0 m):inv F0 D3 [(wMl m)]=m:=g9 b3T (x:=m) h
theorem a7K (m:Ml):V8 m=tkn m.rooms:=rfl
def b6Z:Nat:=182
noncomputable abbrev a1W:Func:=f182
def a0R:List (Nat × List Nat):=[(0,[4,5]),(1,kq [3,6]),(2,kq [3,6,12,14,16,18]),(3,kq [3,6,12,14,16,18,20]),(4,kq [3,6,11,12,14,16,18,22,24]),(5,kq [3,6,12,14,16,18]),(6,kq [3,6,12,14,16,18]),(7,[8])]
def c1K:List Nat:=[0]
def a0f (m:Ml) (x12:Int) (x36:Int):St:=[vp 1 8,vb 1 [ci m.c.1,ci m.c.2,ci m.c.3,ci m.c.4,ci m.c.5,ci m.c.6,.tr false (eL 11 Rm.cs m.2),.tr false (eL 1 b6 m.3)],vi 3 x12,(24,⟨z0,[(false,[(C.pt (Pt.ptr 5 0 [] 8 0 6))])]⟩),(28,⟨z0,[(false,[.tr false (eL 11 Rm.cs m.2)])]⟩),vi 8 (↑m.2.length:Int),vi 9 x36]
def a7L (m:Ml) (x12:Int) (x36:Int):St:=[vp 1 8,vb 1 [ci m.c.1,ci m.c.2,ci m.c.3,ci m.c.4,ci m.c.5,ci m.c.6,.tr false (eL 11 Rm.cs m.2),.tr false (eL 1 b6 m.3)],vi 3 x12,(24,⟨z0,[(false,[(C.pt (Pt.ptr 5 0 [] 8 0 6))])]⟩),(28,⟨z0,[(false,[.tr false (eL 11 Rm.cs m.2)])]⟩),vi 8 (↑m.2.length:Int),vi 9 x36,ve 40]
theorem b2s (m:Ml) (x12:Int) (x36:Int) (n:Nat) (K:Ex→St→Res):i8 prog (b3 []) a0R a1W [1,1,0,1,0] n (a0f m x12 x36) K=(bif decide (x36 < (↑m.2.length:Int)) then gd (decide (0≤x36)&&(x36.toNat.blt m.2.length&&true))<|gd (T.isI i64 (atL Rm.cs m.2 x36.toNat 0)&&T.isI i64 (atL Rm.cs m.2 x36.toNat 1)&&T.isI i64 (atL Rm.cs m.2 x36.toNat 2)&&T.isI i64 (atL Rm.cs m.2 x36.toNat 3)&&((atL Rm.cs m.2 x36.toNat 4).isArr&&(atL Rm.cs m.2 x36.toNat 4).wd.beq 2)&&T.isI i64 (atL Rm.cs m.2 x36.toNat 5)&&T.isI i64 (atL Rm.cs m.2 x36.toNat 6)&&(atL Rm.cs m.2 x36.toNat 7).isB&&T.isI i64 (atL Rm.cs m.2 x36.toNat 8)&&((atL Rm.cs m.2 x36.toNat 9).isArr&&(atL Rm.cs m.2 x36.toNat 9).wd.beq 1)&&((atL Rm.cs m.2 x36.toNat 10).isArr&&(atL Rm.cs m.2 x36.toNat 10).wd.beq 1))<|K .normal (a0f m (i64.wrap (x12+(atL Rm.cs m.2 x36.toNat 6).toI)) (i64.wrap (x36+1))) else K (.exit 0) (a7L m x12 x36)):=by kernel_rfl
theorem c1a (m:Ml) (x12:Int) (x36:Int) (n:Nat):d5 prog (b3 []) a0R a1W c1K [1,1,0,1,0] [] n (.exit 0) (a7L m x12 x36)=(some ([(false,[.tr true (T.int i64 x12)])],[(false,[])])):=by kernel_rfl
theorem d2f (m:Ml) (n:Nat):body prog (b3 []) a0R n a1W [aR m.cs]=(j5 prog (b3 []) a0R a1W [1,1,0,1,0] n n (a0f m (0) (0)) (d5 prog (b3 []) a0R a1W c1K [1,1,0,1,0] [] n)):=by kernel_rfl
def H3 (x:Int × Int):Prop:=True
def F1 (x:Int × Int):List Arg:=[aI x.1,aI x.2]
def a0F (x:Int × Int):Int:=aup x.1 x.2
noncomputable def c4K:Ent:=ent [] H3 F1 (erI 2) a0F
theorem b3U (x y:Int × Int) (h:F1 x=F1 y):x=y:=by
 obtain ⟨x1,y1⟩:=x
 obtain ⟨x2,y2⟩:=y
 simp only [F1,List.cons.injEq,and_true,true_and] at h
 obtain ⟨e0,e1⟩:=h
 obtain rfl:=v9 e0
 obtain rfl:=v9 e1
 rfl
theorem a9y {x:Int} {y:Int} (h:H3 (x,y)):dom H3 F1 [(0,false,[C.tr false (T.int i64 x)]),(0,false,[C.tr false (T.int i64 y)])]=true:=i3 (ea:=F1) (x:=(x,y)) h
theorem a9z {x:Int} {y:Int} (h:H3 (x,y)):inv H3 F1 [(0,false,[C.tr false (T.int i64 x)]),(0,false,[C.tr false (T.int i64 y)])]=(x,y):=g9 b3U (x:=(x,y)) h
theorem b0Z (x:Int) (y:Int):a0F (x,y)=aup x y:=rfl
def c4L:Nat:=140
noncomputable abbrev b7a:Func:=f140
def b4S:List (Nat × List Nat):=[(0,[0,4,36,40,44]),(1,[0,4,48]),(2,[16]),(3,[16])]
noncomputable abbrev c6I:Sems:=b3 [(a5L,a5M),(d5P,d5R)]
theorem d2g (x:Int) (y:Int) (n:Nat):body prog c6I b4S n b7a [aI x,aI y]=(bif decide (0≤x) then bif !decide (x≤1000000000) then some ([(false,[.tr true (T.int i64 0)])],(nu 2)) else bif y==1 then gd (!y==0)<|some ([(false,[.tr true (T.int i64 (i64.wrap (i64.wrap ((i64.wrap (i64.wrap (x+y) - 1)).tdiv y)*y)))])],(nu 2)) else bif y==2 then gd (!y==0)<|some ([(false,[.tr true (T.int i64 (i64.wrap (i64.wrap ((i64.wrap (i64.wrap (x+y) - 1)).tdiv y)*y)))])],(nu 2)) else bif !y==4 then some ([(false,[.tr true (T.int i64 0)])],(nu 2)) else gd (!y==0)<|some ([(false,[.tr true (T.int i64 (i64.wrap (i64.wrap ((i64.wrap (i64.wrap (x+y) - 1)).tdiv y)*y)))])],(nu 2)) else some ([(false,[.tr true (T.int i64 0)])],(nu 2))):=by kernel_rfl
def W9 (x:Int × Int):Prop:=True
def O2 (x:Int × Int):List Arg:=[aI x.1,aI x.2]
def a7M (x:Int × Int):Int:=cdv x.1 x.2
noncomputable def c4M:Ent:=ent [] W9 O2 (erI 2) a7M
theorem b3V (x y:Int × Int) (h:O2 x=O2 y):x=y:=by
 obtain ⟨x1,y1⟩:=x
 obtain ⟨x2,y2⟩:=y
 simp only [O2,List.cons.injEq,and_true,true_and] at h
 obtain ⟨e0,e1⟩:=h
 obtain rfl:=v9 e0
 obtain rfl:=v9 e1
 rfl
theorem d4a {x:Int} {y:Int} (h:W9 (x,y)):dom W9 O2 [(0,false,[C.tr false (T.int i64 x)]),(0,false,[C.tr false (T.int i64 y)])]=true:=i3 (ea:=O2) (x:=(x,y)) h
theorem d4b {x:Int} {y:Int} (h:W9 (x,y)):inv W9 O2 [(0,false,[C.tr false (T.int i64 x)]),(0,false,[C.tr false (T.int i64 y)])]=(x,y):=g9 b3V (x:=(x,y)) h
theorem d8o (x:Int) (y:Int):a7M (x,y)=cdv x y:=rfl
def c4N:Nat:=188
noncomputable abbrev b7b:Func:=f188
def b4T:List (Nat × List Nat):=[(0,[0,4,36,40,44]),(1,[0,4,48]),(2,[16]),(3,[16])]
theorem d2h (x:Int) (y:Int) (n:Nat):body prog (b3 [(a5L,a5M)]) b4T n b7b [aI x,aI y]=(bif decide (0≤x) then bif !decide (x≤1000000000) then some ([(false,[.tr true (T.int i64 0)])],(nu 2)) else bif decide (1≤y) then bif !decide (y≤1000000000) then some ([(false,[.tr true (T.int i64 0)])],(nu 2)) else gd (!y==0)<|some ([(false,[.tr true (T.int i64 (i64.wrap ((i64.wrap (i64.wrap (x+y) - 1)).tdiv y)))])],(nu 2)) else some ([(false,[.tr true (T.int i64 0)])],(nu 2)) else some ([(false,[.tr true (T.int i64 0)])],(nu 2))):=by kernel_rfl
def B0 (x:Ml):Prop:=x.rooms.length≤LM
def B1 (x:Ml):List Arg:=[aR x.cs]
def P7 (x:Ml):Int:=tkn x.rooms
noncomputable def b1a:Ent:=ent [] B0 B1 (erI 1) P7
theorem b3W (x y:Ml) (h:B1 x=B1 y):x=y:=by
 simp only [B1,List.cons.injEq,and_true,true_and] at h
 exact Ml.cs_ext (j6 h)
theorem a4Z {m:Ml} (h:B0 m):dom B0 B1 [(wMl m)]=true:=i3 (ea:=B1) (x:=m) h
theorem a5a {m:Ml} (h:B0 m):inv B0 B1 [(wMl m)]=m:=g9 b3W (x:=m) h
theorem a7N (m:Ml):P7 m=tkn m.rooms:=rfl
def b1b:Nat:=116
noncomputable abbrev a1X:Func:=f116
def a0S:List (Nat × List Nat):=[(0,[4,5]),(1,kq [3,6]),(2,kq [3,6,8]),(3,kq [3,6,8,18]),(4,kq [3,6,8]),(5,kq [3,6,8]),(6,[8])]
def c1L:List Nat:=[0]
def a0g (m:Ml) (x12:Int) (x16:Int):St:=[vp 1 8,vb 1 [ci m.c.1,ci m.c.2,ci m.c.3,ci m.c.4,ci m.c.5,ci m.c.6,.tr false (eL 11 Rm.cs m.2),.tr false (eL 1 b6 m.3)],vi 3 x12,vi 4 x16]
def a7O (m:Ml) (x12:Int) (x16:Int):St:=[vp 1 8,vb 1 [ci m.c.1,ci m.c.2,ci m.c.3,ci m.c.4,ci m.c.5,ci m.c.6,.tr false (eL 11 Rm.cs m.2),.tr false (eL 1 b6 m.3)],vi 3 x12,vi 4 x16,ve 36]
theorem b2t (m:Ml) (x12:Int) (x16:Int) (n:Nat) (K:Ex→St→Res):i8 prog (b3 []) a0S a1X [1,1,0,1,0] n (a0g m x12 x16) K=(bif decide (x16 < (↑m.2.length:Int)) then gd (decide (0≤x16)&&(x16.toNat.blt m.2.length&&true))<|gd (T.isI i64 (atL Rm.cs m.2 x16.toNat 6))<|K .normal (a0g m (i64.wrap (x12+(atL Rm.cs m.2 x16.toNat 6).toI)) (i64.wrap (x16+1))) else K (.exit 0) (a7O m x12 x16)):=by kernel_rfl
theorem c1b (m:Ml) (x12:Int) (x16:Int) (n:Nat):d5 prog (b3 []) a0S a1X c1L [1,1,0,1,0] [] n (.exit 0) (a7O m x12 x16)=(some ([(false,[.tr true (T.int i64 x12)])],[(false,[])])):=by kernel_rfl
theorem d2i (m:Ml) (n:Nat):body prog (b3 []) a0S n a1X [aR m.cs]=(j5 prog (b3 []) a0S a1X [1,1,0,1,0] n n (a0g m (0) (0)) (d5 prog (b3 []) a0S a1X c1L [1,1,0,1,0] [] n)):=by kernel_rfl
def D4 (x:Int × Int):Prop:=True
def F2 (x:Int × Int):List Arg:=[aI x.1,aI x.2]
def a0G (x:Int × Int):Int:=aup x.1 x.2
noncomputable def c4O:Ent:=ent [] D4 F2 (erI 2) a0G
theorem b3X (x y:Int × Int) (h:F2 x=F2 y):x=y:=by
 obtain ⟨x1,y1⟩:=x
 obtain ⟨x2,y2⟩:=y
 simp only [F2,List.cons.injEq,and_true,true_and] at h
 obtain ⟨e0,e1⟩:=h
 obtain rfl:=v9 e0
 obtain rfl:=v9 e1
 rfl
theorem a9A {x:Int} {y:Int} (h:D4 (x,y)):dom D4 F2 [(0,false,[C.tr false (T.int i64 x)]),(0,false,[C.tr false (T.int i64 y)])]=true:=i3 (ea:=F2) (x:=(x,y)) h
theorem a9B {x:Int} {y:Int} (h:D4 (x,y)):inv D4 F2 [(0,false,[C.tr false (T.int i64 x)]),(0,false,[C.tr false (T.int i64 y)])]=(x,y):=g9 b3X (x:=(x,y)) h
theorem b1c (x:Int) (y:Int):a0G (x,y)=aup x y:=rfl
def c4P:Nat:=221
noncomputable abbrev b7c:Func:=f221
def b4U:List (Nat × List Nat):=[(0,[0,4,36,40,44]),(1,[0,4,48]),(2,[16]),(3,[16])]
noncomputable abbrev e5n:Sems:=b3 [(a4V,a4W),(d5T,d5V)]
theorem d2j (x:Int) (y:Int) (n:Nat):body prog e5n b4U n b7c [aI x,aI y]=(bif decide (0≤x) then bif !decide (x≤1000000000) then some ([(false,[.tr true (T.int i64 0)])],(nu 2)) else bif y==1 then gd (!y==0)<|some ([(false,[.tr true (T.int i64 (i64.wrap (i64.wrap ((i64.wrap (i64.wrap (x+y) - 1)).tdiv y)*y)))])],(nu 2)) else bif y==2 then gd (!y==0)<|some ([(false,[.tr true (T.int i64 (i64.wrap (i64.wrap ((i64.wrap (i64.wrap (x+y) - 1)).tdiv y)*y)))])],(nu 2)) else bif !y==4 then some ([(false,[.tr true (T.int i64 0)])],(nu 2)) else gd (!y==0)<|some ([(false,[.tr true (T.int i64 (i64.wrap (i64.wrap ((i64.wrap (i64.wrap (x+y) - 1)).tdiv y)*y)))])],(nu 2)) else some ([(false,[.tr true (T.int i64 0)])],(nu 2))):=by kernel_rfl
def S7 (x:Int × Int):Prop:=True
def J7 (x:Int × Int):List Arg:=[aI x.1,aI x.2]
def a4s (x:Int × Int):Int:=cdv x.1 x.2
noncomputable def c4Q:Ent:=ent [] S7 J7 (erI 2) a4s
theorem b3Y (x y:Int × Int) (h:J7 x=J7 y):x=y:=by
 obtain ⟨x1,y1⟩:=x
 obtain ⟨x2,y2⟩:=y
 simp only [J7,List.cons.injEq,and_true,true_and] at h
 obtain ⟨e0,e1⟩:=h
 obtain rfl:=v9 e0
 obtain rfl:=v9 e1
 rfl
theorem d4c {x:Int} {y:Int} (h:S7 (x,y)):dom S7 J7 [(0,false,[C.tr false (T.int i64 x)]),(0,false,[C.tr false (T.int i64 y)])]=true:=i3 (ea:=J7) (x:=(x,y)) h
theorem d4d {x:Int} {y:Int} (h:S7 (x,y)):inv S7 J7 [(0,false,[C.tr false (T.int i64 x)]),(0,false,[C.tr false (T.int i64 y)])]=(x,y):=g9 b3Y (x:=(x,y)) h
theorem d8p (x:Int) (y:Int):a4s (x,y)=cdv x y:=rfl
def c4R:Nat:=222
noncomputable abbrev b7d:Func:=f222
def b4V:List (Nat × List Nat):=[(0,[0,4,36,40,44]),(1,[0,4,48]),(2,[16]),(3,[16])]
theorem d2k (x:Int) (y:Int) (n:Nat):body prog (b3 [(a4V,a4W)]) b4V n b7d [aI x,aI y]=(bif decide (0≤x) then bif !decide (x≤1000000000) then some ([(false,[.tr true (T.int i64 0)])],(nu 2)) else bif decide (1≤y) then bif !decide (y≤1000000000) then some ([(false,[.tr true (T.int i64 0)])],(nu 2)) else gd (!y==0)<|some ([(false,[.tr true (T.int i64 (i64.wrap ((i64.wrap (i64.wrap (x+y) - 1)).tdiv y)))])],(nu 2)) else some ([(false,[.tr true (T.int i64 0)])],(nu 2)) else some ([(false,[.tr true (T.int i64 0)])],(nu 2))):=by kernel_rfl
def T2 (x:Int):Prop:=True
def L8 (x:Int):List Arg:=[aI x]
def a3x (x:Int):List UInt8:=zer x
noncomputable def d2l:Ent:=ent [] T2 L8 (fun l=>erT 1 (eB l)) a3x
theorem b7S (x y:Int) (h:L8 x=L8 y):x=y:=by
 simp only [L8,List.cons.injEq,and_true,true_and] at h
 exact v9 h
theorem c8k {x:Int} (h:T2 x):dom T2 L8 [(0,false,[C.tr false (T.int i64 x)])]=true:=i3 (ea:=L8) (x:=x) h
theorem c8l {x:Int} (h:T2 x):inv T2 L8 [(0,false,[C.tr false (T.int i64 x)])]=x:=g9 b7S (x:=x) h
theorem d2m (x:Int):a3x x=zer x:=rfl
def d2n:Nat:=176
noncomputable abbrev c2Q:Func:=f176
def b9E:List (Nat × List Nat):=[(0,[0]),(1,[0,20]),(2,[8]),(3,[8])]
theorem d8q (x:Int) (n:Nat):body prog (b3 [(a4V,a4W)]) b9E n c2Q [aI x]=(bif decide (0≤x) then bif !decide (x≤4096) then some ([(false,[.tr true (.arr (1) (0) (i4 []))])],[(false,[])]) else gd (decide (0≤x)&&(decide (x≤x)&&((x.toNat*1).ble 70368744177664&&x.toNat.ble 70368744177664)))<|gl x.toNat<|gl x.toNat<|some ([(false,[.tr true (.arr (1) (x.toNat) (l3 0 x.toNat (N9 prog 5)))])],[(false,[])]) else some ([(false,[.tr true (.arr (1) (0) (i4 []))])],[(false,[])])):=by kernel_rfl
end Go.Mach.F
namespace Go.Mach.F
open Go Go.Mach Go.Proofs.Tryz
theorem d2o {l:List Rm} {i:Nat} {x:Rm} (h:l[i]?=some x):tkn (l.take (i+1))=IntKind.i64.wrap (tkn (l.take i)+x.chunks):=by
 unfold tkn
 rw [List.take_add_one,h,List.foldl_append]
 rfl
theorem c8Q (m:Ml) (h:F0 m):body prog (b3 []) a0R (m.rooms.length+1) a1W (D3 m)=some (erI 1 (V8 m)):=by
 have hlm:=lm
 have hl:m.rooms.length≤LM:=h
 unfold D3 V8
 try dsimp only
 rw [d2f]
 have hst:a0f m 0 0=(fun i:Nat=>a0f m (tkn (m.rooms.take i)) (i:Nat)) 0:=rfl
 rw [hst,v5 m.rooms.length (fun i:Nat=>a0f m (tkn (m.rooms.take i)) (i:Nat)) (a7L m (tkn m.rooms) m.rooms.length) 0 (fun i K hi=>?_) (fun K=>?_) _ (Nat.le_refl _)]
 ·rw [c1a]
  rfl
 ·have hx:=List.getElem?_eq_getElem hi
  rw [b2s,d2o hx]
  simp (disch:=omega) only [f4,hi,d6 hx,Rm.cs,o3]
 ·rw [b2s,List.take_length]
  simp only [p8,Nat.lt_irrefl,decide_false,cond_false]
theorem c4S:d8 prog b6Z b6Y:=g8 b3T fun x hx =>
 b9 (φ:=(b3 [])) b5 d9 (kp:=a0R) (n:=x.rooms.length+1) func182 (c:=d3 a1W) (by kernel_rfl) (c8Q x hx) (b8 (by kernel_rfl))
theorem c8R (x y:Int) (n:Nat) (h:H3 (x,y)):body prog c6I b4S n b7a (F1 (x,y))=some (erI 2 (a0F (x,y))):=by
 unfold F1 a0F aup inR b2r
 dsimp only
 rw [d2g]
 simp only [A1]
 by_cases h1:0≤x
 case neg =>
  simp only [h1,decide_false,cond_false,Bool.false_and]
  rfl
 by_cases h2:x≤1000000000
 case neg =>
  simp only [h1,h2,decide_true,decide_false,cond_true,cond_false,Bool.and_false,Bool.false_and,Bool.not_false]
  rfl
 by_cases h3:y=1
 ·subst h3
  simp only [h1,h2,decide_true,cond_true,Bool.not_true,cond_false,Bool.and_self,Bool.true_or,Bool.true_and]
  rfl
 by_cases h4:y=2
 ·subst h4
  simp only [h1,h2,decide_true,cond_true,Bool.not_true,cond_false,Bool.and_self,Bool.true_or,Bool.or_true,Bool.true_and]
  rfl
 by_cases h5:y=4
 ·subst h5
  simp only [h1,h2,decide_true,cond_true,Bool.not_true,cond_false,Bool.and_self,Bool.or_true,Bool.true_and]
  rfl
 simp only [h1,h2,h3,h4,h5,decide_true,decide_false,cond_true,Bool.not_true,Bool.not_false,cond_false,Bool.and_self,Bool.or_self,Bool.and_false]
 rfl
theorem d8r:d8 prog c4L c4K:=g8 b3U fun x hx =>
 b9 (φ:=c6I) (a9 b2m (a9 d5S b5)) d9 (kp:=b4S) (n:=0) func140 (c:=d3 b7a) (by kernel_rfl) (c8R x.1 x.2 (0) hx) (b8 (by kernel_rfl))
theorem c8S (x y:Int) (n:Nat) (h:W9 (x,y)):body prog (b3 [(a5L,a5M)]) b4T n b7b (O2 (x,y))=some (erI 2 (a7M (x,y))):=by
 unfold O2 a7M cdv inR
 dsimp only
 rw [d2h]
 by_cases h1:0≤x
 case neg =>
  simp only [h1,decide_false,cond_false,Bool.false_and]
  rfl
 by_cases h2:x≤1000000000
 case neg =>
  simp only [h1,h2,decide_true,decide_false,cond_true,cond_false,Bool.and_false,Bool.false_and,Bool.not_false]
  rfl
 by_cases h3:1≤y
 case neg =>
  simp only [h1,h2,h3,decide_true,decide_false,cond_true,cond_false,Bool.and_false,Bool.false_and,Bool.not_true,Bool.and_self]
  rfl
 by_cases h4:y≤1000000000
 case neg =>
  simp only [h1,h2,h3,h4,decide_true,decide_false,cond_true,cond_false,Bool.and_false,Bool.and_self,Bool.not_true,Bool.not_false]
  rfl
 have h5:¬ y=0:=by omega
 simp only [h1,h2,h3,h4,h5,A1,decide_true,decide_false,cond_true,cond_false,Bool.and_self,Bool.not_true,Bool.not_false,gdt]
 rfl
theorem d8s:d8 prog c4N c4M:=g8 b3V fun x hx =>
 b9 (φ:=(b3 [(a5L,a5M)])) (a9 b2m b5) d9 (kp:=b4T) (n:=0) func188 (c:=d3 b7b) (by kernel_rfl) (c8S x.1 x.2 (0) hx) (b8 (by kernel_rfl))
theorem c8T (m:Ml) (h:B0 m):body prog (b3 []) a0S (m.rooms.length+1) a1X (B1 m)=some (erI 1 (P7 m)):=by
 have hlm:=lm
 have hl:m.rooms.length≤LM:=h
 unfold B1 P7
 try dsimp only
 rw [d2i]
 have hst:a0g m 0 0=(fun i:Nat=>a0g m (tkn (m.rooms.take i)) (i:Nat)) 0:=rfl
 rw [hst,v5 m.rooms.length (fun i:Nat=>a0g m (tkn (m.rooms.take i)) (i:Nat)) (a7O m (tkn m.rooms) m.rooms.length) 0 (fun i K hi=>?_) (fun K=>?_) _ (Nat.le_refl _)]
 ·rw [c1b]
  rfl
 ·have hx:=List.getElem?_eq_getElem hi
  rw [b2t,d2o hx]
  simp (disch:=omega) only [f4,hi,d6 hx,Rm.cs,o3]
 ·rw [b2t,List.take_length]
  simp only [p8,Nat.lt_irrefl,decide_false,cond_false]
theorem b7e:d8 prog b1b b1a:=g8 b3W fun x hx =>
 b9 (φ:=(b3 [])) b5 d9 (kp:=a0S) (n:=x.rooms.length+1) func116 (c:=d3 a1X) (by kernel_rfl) (c8T x hx) (b8 (by kernel_rfl))
theorem c8U (x y:Int) (n:Nat) (h:D4 (x,y)):body prog e5n b4U n b7c (F2 (x,y))=some (erI 2 (a0G (x,y))):=by
 unfold F2 a0G aup inR b2r
 dsimp only
 rw [d2j]
 simp only [A1]
 by_cases h1:0≤x
 case neg =>
  simp only [h1,decide_false,cond_false,Bool.false_and]
  rfl
 by_cases h2:x≤1000000000
 case neg =>
  simp only [h1,h2,decide_true,decide_false,cond_true,cond_false,Bool.and_false,Bool.false_and,Bool.not_false]
  rfl
 by_cases h3:y=1
 ·subst h3
  simp only [h1,h2,decide_true,cond_true,Bool.not_true,cond_false,Bool.and_self,Bool.true_or,Bool.true_and]
  rfl
 by_cases h4:y=2
 ·subst h4
  simp only [h1,h2,decide_true,cond_true,Bool.not_true,cond_false,Bool.and_self,Bool.true_or,Bool.or_true,Bool.true_and]
  rfl
 by_cases h5:y=4
 ·subst h5
  simp only [h1,h2,decide_true,cond_true,Bool.not_true,cond_false,Bool.and_self,Bool.or_true,Bool.true_and]
  rfl
 simp only [h1,h2,h3,h4,h5,decide_true,decide_false,cond_true,Bool.not_true,Bool.not_false,cond_false,Bool.and_self,Bool.or_self,Bool.and_false]
 rfl
theorem d8t:d8 prog c4P c4O:=g8 b3X fun x hx =>
 b9 (φ:=e5n) (a9 b9C (a9 e9f b5)) d9 (kp:=b4U) (n:=0) func221 (c:=d3 b7c) (by kernel_rfl) (c8U x.1 x.2 (0) hx) (b8 (by kernel_rfl))
theorem c8V (x y:Int) (n:Nat) (h:S7 (x,y)):body prog (b3 [(a4V,a4W)]) b4V n b7d (J7 (x,y))=some (erI 2 (a4s (x,y))):=by
 unfold J7 a4s cdv inR
 dsimp only
 rw [d2k]
 by_cases h1:0≤x
 case neg =>
  simp only [h1,decide_false,cond_false,Bool.false_and]
  rfl
 by_cases h2:x≤1000000000
 case neg =>
  simp only [h1,h2,decide_true,decide_false,cond_true,cond_false,Bool.and_false,Bool.false_and,Bool.not_false]
  rfl
 by_cases h3:1≤y
 case neg =>
  simp only [h1,h2,h3,decide_true,decide_false,cond_true,cond_false,Bool.and_false,Bool.false_and,Bool.not_true,Bool.and_self]
  rfl
 by_cases h4:y≤1000000000
 case neg =>
  simp only [h1,h2,h3,h4,decide_true,decide_false,cond_true,cond_false,Bool.and_false,Bool.and_self,Bool.not_true,Bool.not_false]
  rfl
 have h5:¬ y=0:=by omega
 simp only [h1,h2,h3,h4,h5,A1,decide_true,decide_false,cond_true,cond_false,Bool.and_self,Bool.not_true,Bool.not_false,gdt]
 rfl
theorem d8u:d8 prog c4R c4Q:=g8 b3Y fun x hx =>
 b9 (φ:=(b3 [(a4V,a4W)])) (a9 b9C b5) d9 (kp:=b4V) (n:=0) func222 (c:=d3 b7d) (by kernel_rfl) (c8V x.1 x.2 (0) hx) (b8 (by kernel_rfl))
theorem d4e (x:Int) (n:Nat) (h:T2 x):body prog (b3 [(a4V,a4W)]) b9E n c2Q (L8 x)=some (erT 1 (eB (a3x x))):=by
 unfold L8 a3x zer inR
 rw [d8q]
 have r0:T.arr 1 0 (i4 [])=T.arr 1 0 (atL f5 []):=by rw [a2h f5]
 by_cases h1:0≤x
 case neg =>
  simp only [h1,decide_false,cond_false,Bool.false_and,r0]
  rfl
 by_cases h2:x≤4096
 case neg =>
  simp only [h1,h2,decide_true,decide_false,cond_true,cond_false,Bool.and_false,Bool.false_and,Bool.not_false,r0]
  rfl
 have h3:x.toNat*1≤70368744177664:=by omega
 have h4:x.toNat≤70368744177664:=by omega
 simp only [h1,h2,h3,h4,i6,Nat.le_refl,Int.le_refl,decide_true,cond_true,cond_false,Bool.and_self,Bool.and_true,Bool.not_true,gdt]
 rw [a0u (m:=1) (row:=f5) (d:=0) x.toNat (fun j k=>by rcases k with _ | _ <;> kernel_rfl)]
 simp only [erT,l7,List.length_replicate]
 rfl
theorem e5o:d8 prog d2n d2l:=g8 b7S fun x hx =>
 b9 (φ:=(b3 [(a4V,a4W)])) (a9 b9C b5) d9 (kp:=b9E) (n:=0) func176 (c:=d3 c2Q) (by kernel_rfl) (d4e x (0) hx) (b8 (by kernel_rfl))
end Go.Mach.F
namespace Go.Mach.F
open Go Go.Mach Go.Proofs.Tryz Go.IntKind
--=set_option maxRecDepth 100000
theorem f1F {t t':T} (h:lT t=lT t'):t=t':=by cases h;rfl
theorem a5b {t t':T} (h:vT t=vT t'):t=t':=by cases h;rfl
def b0b (x:List Int):Prop:=x.length≤LM
def a5c (x:List Int):List Arg:=[lT (eI x)]
def c4T (x:List Int):List Int:=x.reverse
noncomputable def e7a:Ent:=ent [1] b0b a5c (fun l=>([],[oT (eI l)])) c4T
theorem c4U (x y:List Int) (h:a5c x=a5c y):x=y:=by
 simp only [a5c,List.cons.injEq,and_true,true_and] at h
 exact J3 (f1F h)
theorem f1G {l:List Int} (h:b0b l):dom b0b a5c [(1,false,[C.tr true (T.arr 1 l.length (atL b6 l))])]=true:=i3 (ea:=a5c) (x:=l) h
theorem f1H {l:List Int} (h:b0b l):inv b0b a5c [(1,false,[C.tr true (T.arr 1 l.length (atL b6 l))])]=l:=g9 c4U (x:=l) h
theorem f2P (l:List Int):c4T l=l.reverse:=rfl
def e7b:Nat:=225
noncomputable abbrev b7f:Func:=f225
def b2u:List (Nat × List Nat):=[(0,[0,8,12,2]),(1,[0,8,12,36,2]),(2,[0,8,12,2]),(3,[0,8,12,2])]
def e1G:List Nat:=[1]
def a8O (l:List Int) (x8:Int) (x12:Int) (nx2:Nat) (fx2:Nat→Nat→T):St:=[vr 0 2 0 [0,0] 1 0 l.length,vi 2 x8,vi 3 x12,(2,⟨z0,[(false,[ca (1) (nx2) (fx2)])]⟩)]
def b7g (l:List Int) (x8:Int) (x12:Int) (nx2:Nat) (fx2:Nat→Nat→T):St:=[vr 0 2 0 [0,0] 1 0 l.length,vi 2 x8,vi 3 x12,ve 36,(2,⟨z0,[(false,[ca (1) (nx2) (fx2)])]⟩)]
theorem c1M (l:List Int) (x8:Int) (x12:Int) (nx2:Nat) (fx2:Nat→Nat→T) (n:Nat) (K:Ex→St→Res):i8 prog (b3 []) b2u b7f [1,0] n (a8O l x8 x12 nx2 fx2) K=(bif decide (x8 < x12) then gd (decide (0≤x12)&&(x12.toNat.blt l.length&&true))<|gd ((0+x12.toNat).blt nx2&&true&&T.isI i64 (fx2 (0+x12.toNat) 0))<|gd (decide (0≤x8)&&(x8.toNat.blt l.length&&true))<|gd ((0+x8.toNat).blt nx2&&true&&T.isI i64 (fx2 (0+x8.toNat) 0))<|gd (decide (0≤x8)&&(x8.toNat.blt l.length&&true))<|gd ((0+x8.toNat).blt nx2&&true&&true)<|gd (decide (0≤x12)&&(x12.toNat.blt l.length&&true))<|gd ((0+x12.toNat).blt nx2&&true&&true)<|K .normal (a8O l (i64.wrap (x8+1)) (i64.wrap (x12 - 1)) (nx2) (b7 (0+x12.toNat) 0 (T.int i64 (fx2 (0+x8.toNat) 0).toI) (b7 (0+x8.toNat) 0 (T.int i64 (fx2 (0+x12.toNat) 0).toI) fx2))) else K (.exit 0) (b7g l x8 x12 nx2 fx2)):=by kernel_rfl
theorem d2p (l:List Int) (x8:Int) (x12:Int) (nx2:Nat) (fx2:Nat→Nat→T) (n:Nat):d5 prog (b3 []) b2u b7f e1G [1,0] [] n (.exit 0) (b7g l x8 x12 nx2 fx2)=(some ([],[(false,[.tr true (.arr (1) (nx2) (fx2))])])):=by kernel_rfl
theorem e9g (l:List Int) (n:Nat):body prog (b3 []) b2u n b7f [lT (eI l)]=(j5 prog (b3 []) b2u b7f [1,0] n n (a8O l (0) (i64.wrap ((↑l.length:Int) - 1)) (l.length) (atL b6 l)) (d5 prog (b3 []) b2u b7f e1G [1,0] [] n)):=by kernel_rfl
def T3 (x:List Int):Prop:=x.length≤LM
def J8 (x:List Int):List Arg:=[aT (eI x)]
def a5d (x:List Int):List Int:=x.reverse
noncomputable def X0:Ent:=ent [] T3 J8 (fun l=>erT 1 (eI l)) a5d
theorem b2v (x y:List Int) (h:J8 x=J8 y):x=y:=by
 simp only [J8,List.cons.injEq,and_true,true_and] at h
 exact J3 (K7 h)
theorem d2q {l:List Int} (h:T3 l):dom T3 J8 [(0,false,[C.tr false (T.arr 1 l.length (atL b6 l))])]=true:=i3 (ea:=J8) (x:=l) h
theorem d2r {l:List Int} (h:T3 l):inv T3 J8 [(0,false,[C.tr false (T.arr 1 l.length (atL b6 l))])]=l:=g9 b2v (x:=l) h
theorem d4f (l:List Int):a5d l=l.reverse:=rfl
def X1:Nat:=191
noncomputable abbrev b4W:Func:=f191
def b2w:List (Nat × List Nat):=[(0,[0]),(1,[12]),(2,[12]),(3,[8])]
noncomputable abbrev e5p:Sems:=b3 [(c9D,c9E),(e7b,e7a)]
theorem c8W (l:List Int) (n:Nat):body prog e5p b2w n b4W [aT (eI l)]=(d7 a3p a4R (c4F) [(0,false,[C.tr false (T.arr 1 l.length (atL b6 l))])] fun (r1:List Int)=>gl r1.length<|gk r1.length<|d7 b0b a5c (c4T) [(1,false,[C.tr true (T.arr 1 r1.length (atL b6 r1))])] fun (r2:List Int)=>gd (r1.length.beq r2.length&&true)<|gl r2.length<|gl r2.length<|some ([(false,[.tr true (.arr (1) (r2.length) (atL b6 r2))])],[(false,[])])):=by kernel_rfl
def T4 (x:List Int):Prop:=x.length≤LM
def J9 (x:List Int):List Arg:=[aT (eI x)]
def a5e (x:List Int):List Int:=x.reverse
noncomputable def X2:Ent:=ent [] T4 J9 (fun l=>erT 1 (eI l)) a5e
theorem b2x (x y:List Int) (h:J9 x=J9 y):x=y:=by
 simp only [J9,List.cons.injEq,and_true,true_and] at h
 exact J3 (K7 h)
theorem d2s {l:List Int} (h:T4 l):dom T4 J9 [(0,false,[C.tr false (T.arr 1 l.length (atL b6 l))])]=true:=i3 (ea:=J9) (x:=l) h
theorem d2t {l:List Int} (h:T4 l):inv T4 J9 [(0,false,[C.tr false (T.arr 1 l.length (atL b6 l))])]=l:=g9 b2x (x:=l) h
theorem d4g (l:List Int):a5e l=l.reverse:=rfl
def X3:Nat:=179
noncomputable abbrev a0T:Func:=f179
def Z3:List (Nat × List Nat):=[(0,[0]),(1,[0,12]),(2,[0,12,16]),(3,[0,12,16,40]),(4,[0,12,16]),(5,[0,12,16]),(6,[8])]
def b9F:List Nat:=[0]
def Y3 (l:List Int) (nx12:Nat) (fx12:Nat→Nat→T) (x16:Int):St:=[(0,⟨z0,[(false,[.tr false (.arr (1) (l.length) (atL b6 l))])]⟩),va 3 (1) (nx12) (fx12),vi 4 x16]
def a5N (l:List Int) (nx12:Nat) (fx12:Nat→Nat→T) (x16:Int):St:=[(0,⟨z0,[(false,[.tr false (.arr (1) (l.length) (atL b6 l))])]⟩),va 3 (1) (nx12) (fx12),vi 4 x16,ve 40]
theorem b0P (l:List Int) (nx12:Nat) (fx12:Nat→Nat→T) (x16:Int) (n:Nat) (K:Ex→St→Res):i8 prog (b3 []) Z3 a0T [1,1,0,1,0] n (Y3 l nx12 fx12 x16) K=(bif decide (0≤x16) then gd (decide (0≤x16)&&(x16.toNat.blt l.length&&true))<|gd (T.isI i64 (atL b6 l x16.toNat 0))<|gl nx12<|gd (((nx12+1)*8).ble 70368744177664&&(nx12+1).ble 70368744177664)<|gd ((nx12+1).ble (nx12+1)&&true)<|K .normal (Y3 l (nx12+1) (n6 nx12 fx12 (n7 (l3 0 1 (i4 [[T.int i64 (atL b6 l x16.toNat 0).toI]])))) (i64.wrap (x16 - 1))) else K (.exit 0) (a5N l nx12 fx12 x16)):=by kernel_rfl
theorem b9G (l:List Int) (nx12:Nat) (fx12:Nat→Nat→T) (x16:Int) (n:Nat):d5 prog (b3 []) Z3 a0T b9F [1,1,0,1,0] [] n (.exit 0) (a5N l nx12 fx12 x16)=(gl nx12<|gl nx12<|some ([(false,[.tr true (.arr (1) (nx12) (fx12))])],[(false,[])])):=by kernel_rfl
theorem c8X (l:List Int) (n:Nat):body prog (b3 []) Z3 n a0T [aT (eI l)]=(j5 prog (b3 []) Z3 a0T [1,1,0,1,0] n n (Y3 l (0) (i4 []) (i64.wrap ((↑l.length:Int) - 1))) (d5 prog (b3 []) Z3 a0T b9F [1,1,0,1,0] [] n)):=by kernel_rfl
end Go.Mach.F
namespace Go.Mach.F
open Go Go.Mach Go.Proofs.Tryz Go.IntKind
--=set_option maxRecDepth 100000
def V9 {α:Type} (l:List α) (i:Int) (x:α):List α:=l.take i.toNat ++ [x] ++ l.drop i.toNat
def a5O (y:List Hd × Int × Hd):Prop:=0≤y.2.1∧y.2.1≤(y.1.length:Int)∧y.1.length≤LM
def a3y (y:List Hd × Int × Hd):List Arg:=[vT (eL 2 Hd.cs y.1),aI y.2.1,vT (eL 2 Hd.cs [y.2.2])]
def c6J (y:List Hd × Int × Hd):List Hd:=V9 y.1 y.2.1 y.2.2
noncomputable def d5W:Ent:=ent [3,0,3] a5O a3y (fun l=>([oT (eL 2 Hd.cs l)],[nul,nul,nul])) c6J
theorem b9H (x y:List Hd × Int × Hd) (h:a3y x=a3y y):x=y:=by
 obtain ⟨l1,i1,x1⟩:=x
 obtain ⟨l2,i2,x2⟩:=y
 simp only [a3y,List.cons.injEq,and_true,true_and] at h
 obtain ⟨e0,e1,e2⟩:=h
 obtain rfl:=m8 Hd.cs_inj (a5b e0)
 obtain rfl:=v9 e1
 have e3:=m8 Hd.cs_inj (a5b e2)
 obtain rfl:=(List.cons.inj e3).1
 rfl
theorem e5q {l:List Hd} {i:Int} {x:Hd} (h:a5O (l,i,x)):dom a5O a3y [(3,false,[C.tr true (T.arr 2 l.length (atL Hd.cs l))]),(0,false,[C.tr false (T.int i64 i)]),(3,false,[C.tr true (T.arr 2 1 (atL Hd.cs [x]))])]=true:=i3 (ea:=a3y) (x:=(l,i,x)) h
theorem e5r {l:List Hd} {i:Int} {x:Hd} (h:a5O (l,i,x)):inv a5O a3y [(3,false,[C.tr true (T.arr 2 l.length (atL Hd.cs l))]),(0,false,[C.tr false (T.int i64 i)]),(3,false,[C.tr true (T.arr 2 1 (atL Hd.cs [x]))])]=(l,i,x):=g9 b9H (x:=(l,i,x)) h
theorem e9h (l:List Hd) (i:Int) (x:Hd):c6J (l,i,x)=V9 l i x:=rfl
def c6K:Nat:=133
theorem e9i:d8 prog c6K d5W:=g8 b9H fun y hy=>by
 obtain ⟨l,i,x⟩:=y
 obtain ⟨h0,h1,h2⟩:=hy
 dsimp only at h0 h1 h2
 have hlm:=lm
 obtain ⟨k,rfl⟩:∃ k:Nat,i=(k:Int):=⟨i.toNat,by omega⟩
 have hk:k≤l.length:=by omega
 have e:eL 2 Hd.cs (V9 l (k:Int) x)=T.arr 2 (l.length+1) (a7G k (atL Hd.cs l) (atL Hd.cs [x])):=by
  rw [b9r hk]
  unfold V9
  rw [Int.toNat_natCast,l7]
  congr 1
  simp only [List.length_append,List.length_take,List.length_drop,List.length_singleton]
  omega
 have hb:(l.length+1)*16≤140737488355328:=by omega
 show a1N prog c6K _ [oT (eL 2 Hd.cs (V9 l (k:Int) x))] _
 rw [e]
 exact b9q ⟨_,func133,by kernel_rfl,b8 (by kernel_rfl)⟩ hk
  (fun w b off c vb voff vc cs vs hs hv hne=>d7R hs hv hne hk hb)
  (fun _ w vb voff vc vs hv=>d7Q hv)
def R8 (y:List Rm × Int × Rm):Prop:=0≤y.2.1∧y.2.1≤(y.1.length:Int)∧y.1.length≤LM
def R9 (y:List Rm × Int × Rm):List Arg:=[vT (eL 11 Rm.cs y.1),aI y.2.1,vT (eL 11 Rm.cs [y.2.2])]
def a6L (y:List Rm × Int × Rm):List Rm:=V9 y.1 y.2.1 y.2.2
noncomputable def d5X:Ent:=ent [3,0,3] R8 R9 (fun l=>([oT (eL 11 Rm.cs l)],[nul,nul,nul])) a6L
theorem b9I (x y:List Rm × Int × Rm) (h:R9 x=R9 y):x=y:=by
 obtain ⟨l1,i1,x1⟩:=x
 obtain ⟨l2,i2,x2⟩:=y
 simp only [R9,List.cons.injEq,and_true,true_and] at h
 obtain ⟨e0,e1,e2⟩:=h
 obtain rfl:=m8 Rm.cs_inj (a5b e0)
 obtain rfl:=v9 e1
 have e3:=m8 Rm.cs_inj (a5b e2)
 obtain rfl:=(List.cons.inj e3).1
 rfl
theorem b7h {l:List Rm} {i:Int} {x:Rm} (h:R8 (l,i,x)):dom R8 R9 [(3,false,[C.tr true (T.arr 11 l.length (atL Rm.cs l))]),(0,false,[C.tr false (T.int i64 i)]),(3,false,[C.tr true (T.arr 11 1 (atL Rm.cs [x]))])]=true:=i3 (ea:=R9) (x:=(l,i,x)) h
theorem b7i {l:List Rm} {i:Int} {x:Rm} (h:R8 (l,i,x)):inv R8 R9 [(3,false,[C.tr true (T.arr 11 l.length (atL Rm.cs l))]),(0,false,[C.tr false (T.int i64 i)]),(3,false,[C.tr true (T.arr 11 1 (atL Rm.cs [x]))])]=(l,i,x):=g9 b9I (x:=(l,i,x)) h
theorem c0T (l:List Rm) (i:Int) (x:Rm):a6L (l,i,x)=V9 l i x:=rfl
def c6L:Nat:=136
theorem e9j:d8 prog c6L d5X:=g8 b9I fun y hy=>by
 obtain ⟨l,i,x⟩:=y
 obtain ⟨h0,h1,h2⟩:=hy
 dsimp only at h0 h1 h2
 have hlm:=lm
 obtain ⟨k,rfl⟩:∃ k:Nat,i=(k:Int):=⟨i.toNat,by omega⟩
 have hk:k≤l.length:=by omega
 have e:eL 11 Rm.cs (V9 l (k:Int) x)=T.arr 11 (l.length+1) (a7G k (atL Rm.cs l) (atL Rm.cs [x])):=by
  rw [b9r hk]
  unfold V9
  rw [Int.toNat_natCast,l7]
  congr 1
  simp only [List.length_append,List.length_take,List.length_drop,List.length_singleton]
  omega
 have hb:(l.length+1)*136≤140737488355328:=by omega
 show a1N prog c6L _ [oT (eL 11 Rm.cs (V9 l (k:Int) x))] _
 rw [e]
 exact b9q ⟨_,func136,by kernel_rfl,b8 (by kernel_rfl)⟩ hk
  (fun w b off c vb voff vc cs vs hs hv hne=>d7U hs hv hne hk hb)
  (fun _ w vb voff vc vs hv=>d7T hv)
def gtx (l:List Rm) (h:Hd):Int:=match (List.range l.length).find? (fun i=>decide (h.slot < (l.getD i zRm).h.slot)) with | some i=>(i:Int) | none=>-1
/-- Where a room is put. -/
def a8P (l:List Rm) (h:Hd):Int:=bif decide (gtx l h < 0) then (l.length:Int) else gtx l h
def E3 (h up:Hd):Rm:=⟨h,up,[],0,1,true,0,[],[]⟩
def a4D (l:List Rm) (k:Int) (h:Hd):List Rm:=bif decide (0≤k) then l.set k.toNat { l.getD k.toNat zRm with kids:=h::(l.getD k.toNat zRm).kids } else l
def b2y (m:Ml) (k:Int) (up h:Hd):Ml:=⟨m.c,V9 (a4D m.rooms k h) (a8P (a4D m.rooms k h) h) (E3 h up),m.log⟩
def b7j (m:Ml) (k:Int) (up h:Hd) (b:Bool):Ml × Int:=bif b then (bif decide (m.c.chunks < i64.wrap (tkn m.rooms+1)) then (m,5) else (b2y m k up h,0)) else (m,4)
def a5P (m:Ml) (up h:Hd) (b:Bool):Ml × Int:=bif decide (up=⟨0,0⟩) then b7j m (-1) up h b else
 bif decide ((rsv m up).2=0) then (bif decide (4≤dpn m.rooms m.rooms.length up) then (m,3) else b7j m (rsv m up).1 up h b) else (m,(rsv m up).2)
def a7P:Nat:=135
noncomputable abbrev e7c:Func:=f135
def f1I:List (Nat × List Nat):=[(0,[4,8,9]),(1,[12])]
noncomputable def b1d:Ent:=inl [0,0] prog (b3 []) f1I 0 e7c
theorem f2Q:d8 prog a7P b1d:=p6 b5 d9 (c:=d3 e7c) func135 (by kernel_rfl) (b8 (by kernel_rfl))
def a1p (x:List Rm × Hd):Prop:=x.1.length≤LM
def a0h (x:List Rm × Hd):List Arg:=[aT (eL 11 Rm.cs x.1),aF a7P x.2.cs]
def b2z (x:List Rm × Hd):Int:=gtx x.1 x.2
noncomputable def e1H:Ent:=ent [] a1p a0h (erI 2) b2z
theorem c1N (x y:List Rm × Hd) (h:a0h x=a0h y):x=y:=by
 obtain ⟨l1,h1⟩:=x
 obtain ⟨l2,h2⟩:=y
 simp only [a0h,List.cons.injEq,and_true,true_and] at h
 obtain ⟨e0,e1⟩:=h
 obtain rfl:=m8 Rm.cs_inj (K7 e0)
 obtain rfl:=Hd.cs_ext (c4x (by rfl) e1)
 rfl
theorem d5Y {l:List Rm} {h:Hd} (h0:a1p (l,h)):dom a1p a0h [(0,false,[C.tr false (T.arr 11 l.length (atL Rm.cs l))]),(0,false,[C.fn 135 [Pt.pim 2 (v3 [T.int i64 h.slot,T.int i64 h.gen])]])]=true:=i3 (ea:=a0h) (x:=(l,h)) h0
theorem d5Z {l:List Rm} {h:Hd} (h0:a1p (l,h)):inv a1p a0h [(0,false,[C.tr false (T.arr 11 l.length (atL Rm.cs l))]),(0,false,[C.fn 135 [Pt.pim 2 (v3 [T.int i64 h.slot,T.int i64 h.gen])]])]=(l,h):=g9 c1N (x:=(l,h)) h0
theorem e1I (l:List Rm) (h:Hd):b2z (l,h)=gtx l h:=rfl
def e1J:Nat:=134
noncomputable abbrev b0c:Func:=f134
def a6M:List (Nat × List Nat):=[(0,[0,4]),(1,[0,4,28,32]),(2,[0,4,28,32,36]),(3,[0,4,20,28,32]),(4,[0,4,20,28,32,64]),(5,[16]),(6,[0,4,28,32]),(7,[16])]
def c6M:List Nat:=[0,0]
def a6N (l:List Rm) (h:Hd) (x32:Int):St:=[(0,⟨z0,[(false,[.tr false (eL 11 Rm.cs l)])]⟩),(4,⟨z0,[(false,[(C.fn 135 [Pt.pim [T.int i64 h.1,T.int i64 h.2].length (v3 [T.int i64 h.1,T.int i64 h.2])])])]⟩),vi 7 (↑l.length:Int),vi 8 x32]
def b4X (l:List Rm) (h:Hd) (x32:Int):St:=[vi 4 x32]
def b4Y (l:List Rm) (h:Hd) (x32:Int):St:=[(0,⟨z0,[(false,[.tr false (eL 11 Rm.cs l)])]⟩),(4,⟨z0,[(false,[(C.fn 135 [Pt.pim [T.int i64 h.1,T.int i64 h.2].length (v3 [T.int i64 h.1,T.int i64 h.2])])])]⟩),vi 7 (↑l.length:Int),vi 8 x32,ve 36]
theorem b9J (l:List Rm) (h:Hd) (x32:Int) (n:Nat) (K:Ex→St→Res):i8 prog (b3 [(a7P,b1d)]) a6M b0c [1,0,1,0] n (a6N l h x32) K=(bif decide (x32 < (↑l.length:Int)) then gd (decide (0≤x32)&&(x32.toNat.blt l.length&&true))<|gd (T.isI i64 (atL Rm.cs l x32.toNat 0)&&T.isI i64 (atL Rm.cs l x32.toNat 1)&&T.isI i64 (atL Rm.cs l x32.toNat 2)&&T.isI i64 (atL Rm.cs l x32.toNat 3)&&((atL Rm.cs l x32.toNat 4).isArr&&(atL Rm.cs l x32.toNat 4).wd.beq 2)&&T.isI i64 (atL Rm.cs l x32.toNat 5)&&T.isI i64 (atL Rm.cs l x32.toNat 6)&&(atL Rm.cs l x32.toNat 7).isB&&T.isI i64 (atL Rm.cs l x32.toNat 8)&&((atL Rm.cs l x32.toNat 9).isArr&&(atL Rm.cs l x32.toNat 9).wd.beq 1)&&((atL Rm.cs l x32.toNat 10).isArr&&(atL Rm.cs l x32.toNat 10).wd.beq 1))<|bif decide ((T.int i64 h.1).toI < (atL Rm.cs l x32.toNat 0).toI) then K .ret (b4X l h x32) else K .normal (a6N l h (i64.wrap (x32+1))) else K (.exit 0) (b4Y l h x32)):=by kernel_rfl
theorem c8Y (l:List Rm) (h:Hd) (x32:Int) (n:Nat):d5 prog (b3 [(a7P,b1d)]) a6M b0c c6M [1,0,1,0] [] n .ret (b4X l h x32)=(some ([(false,[.tr true (T.int i64 x32)])],(nu 2))):=by kernel_rfl
theorem c8Z (l:List Rm) (h:Hd) (x32:Int) (n:Nat):d5 prog (b3 [(a7P,b1d)]) a6M b0c c6M [1,0,1,0] [] n (.exit 0) (b4Y l h x32)=(some ([(false,[.tr true (T.int i64 (-1))])],(nu 2))):=by kernel_rfl
theorem e5s (l:List Rm) (h:Hd) (n:Nat):body prog (b3 [(a7P,b1d)]) a6M n b0c [aT (eL 11 Rm.cs l),aF a7P h.cs]=(j5 prog (b3 [(a7P,b1d)]) a6M b0c [1,0,1,0] n n (a6N l h (0)) (d5 prog (b3 [(a7P,b1d)]) a6M b0c c6M [1,0,1,0] [] n)):=by kernel_rfl
def e7d:Nat:=132
noncomputable abbrev e7e:Func:=f132
def f1J:List (Nat × List Nat):=[(0,[4,8,9]),(1,[16])]
noncomputable def e7f:Ent:=inl [] prog (b3 [(b6Z,b6Y)]) f1J 0 e7e
theorem f2R:d8 prog e7d e7f:=p6 (a9 c4S b5) d9 (c:=d3 e7e) func132 (by kernel_rfl) (b8 (by kernel_rfl))
def a6O (x:Ml × Hd × Hd × Bool):Prop:=ok_RmS x.1.rooms∧m6 x.1.log
def a2w (x:Ml × Hd × Hd × Bool):List Arg:=[aR x.1.cs,aR x.2.1.cs,aR x.2.2.1.cs,aB x.2.2.2]
def b6e (x:Ml × Hd × Hd × Bool):Ml × Int:=a5P x.1 x.2.1 x.2.2.1 x.2.2.2
noncomputable def e1K:Ent:=ent [] a6O a2w (fun (x:Ml × Int)=>([oR x.1.cs,oT (.int .i64 x.2)],[nul,nul,nul,nul])) b6e
theorem c1O (x y:Ml × Hd × Hd × Bool) (h:a2w x=a2w y):x=y:=by
 obtain ⟨m1,up1,h1,b1⟩:=x
 obtain ⟨m2,up2,h2,b2⟩:=y
 simp only [a2w,List.cons.injEq,and_true,true_and] at h
 obtain ⟨e0,e1,e2,e3⟩:=h
 obtain rfl:=Ml.cs_ext (j6 e0)
 obtain rfl:=Hd.cs_ext (j6 e1)
 obtain rfl:=Hd.cs_ext (j6 e2)
 obtain rfl:=b5J e3
 rfl
theorem e9k {m:Ml} {up:Hd} {h:Hd} {b:Bool} (h0:a6O (m,up,h,b)):dom a6O a2w [(wMl m),(wHd up),(wHd h),(0,false,[C.tr false (T.bool b)])]=true:=i3 (ea:=a2w) (x:=(m,up,h,b)) h0
theorem e9l {m:Ml} {up:Hd} {h:Hd} {b:Bool} (h0:a6O (m,up,h,b)):inv a6O a2w [(wMl m),(wHd up),(wHd h),(0,false,[C.tr false (T.bool b)])]=(m,up,h,b):=g9 c1O (x:=(m,up,h,b)) h0
theorem f1K (m:Ml) (up:Hd) (h:Hd) (b:Bool):b6e (m,up,h,b)=a5P m up h b:=rfl
def e1L:Nat:=84
noncomputable abbrev d2u:Func:=f84
def c6N:List (Nat × List Nat):=[(0,kq [6,9,11,13,17,21,32,58,72,82,90,160]),(1,kq [6,9,11,13,17,21,22,32,58,72,82,90,160]),(2,kq [6,9,11,13,17,21,22,32,38,58,72,82,90,160]),(3,kq [6,9,11,13,17,21,24,26,32,58,72,82,90,160]),(4,kq [6,9,11,13,17,21,24,26,32,52,58,72,82,90,160]),(5,kq [17,18,21,32,58,72,82,90,160]),(6,kq [6,9,11,13,17,21,24,32,58,62,72,82,90,160]),(7,kq [17,18,21,32,58,72,82,90,160]),(8,kq [6,9,11,13,17,21,22,32,58,72,82,90,160]),(9,kq [9,11,13,17,21,22,32,58,72,76,82,90,160]),(10,kq [17,18,21,32,58,72,82,90,160]),(11,kq [11,13,17,21,22,32,58,72,82,84,90,160]),(12,kq [17,18,21,32,58,72,82,90,160]),(13,kq [11,13,17,21,22,32,58,72,82,90,94,160]),(14,kq [11,13,17,21,32,58,72,82,90,160]),(15,kq [11,13,17,21,28,32,58,72,82,90,160]),(16,kq [11,13,17,21,28,32,58,72,82,90,134,160]),(17,kq [11,13,17,21,28,32,58,72,82,90,160]),(18,kq [17,21,32,58,72,82,90,160]),(19,kq [17,18,21,32,58,72,82,90,160])]
noncomputable abbrev e5t:Sems:=b3 [(P6,P5),(a0E,a0D),(c8a,c7Z),(e7d,e7f),(c6K,d5W),(e1J,e1H),(c6L,d5X)]
theorem e5u (m:Ml) (up:Hd) (h:Hd) (b:Bool) (n:Nat):body prog e5t c6N n d2u [aR m.cs,aR up.cs,aR h.cs,aB b]=(d7 A9 F9 (Z2) [(wMl m)] fun (r1:Ml)=>let q2:=T.arr 11 r1.2.length (eL 11 Rm.cs r1.2).fn;let q5:=T.arr 11 r1.2.length (l3 0 r1.2.length (eL 11 Rm.cs r1.2).fn);gl r1.2.length<|gl r1.3.length<|bif !bif up.1==0 then bif up.2==0 then true else false else false then d7 Q1 T9 (a4T) [(wMl m),(wHd up)] fun (r2:Int × Int)=>let q1:=atL Rm.cs r1.2 (0+r2.1.toNat) (4+0);let q3:=b7 (0+r2.1.toNat) 4 T.hole (eL 11 Rm.cs r1.2).fn;bif r2.2 != 0 then gl r1.2.length<|gl r1.3.length<|gl r1.2.length<|gl r1.3.length<|some ([(oR (Ml.cs r1)),(false,[.tr true (T.int i64 r2.2)])],(nu 4)) else d7 a0z S5 (a9Y) [(wMl m),(wHd up)] fun (r3:Int)=>bif decide (4≤r3) then gl r1.2.length<|gl r1.3.length<|gl r1.2.length<|gl r1.3.length<|some ([(oR (Ml.cs r1)),(false,[.tr true (T.int i64 3)])],(nu 4)) else bif !b then gl r1.2.length<|gl r1.3.length<|gl r1.2.length<|gl r1.3.length<|some ([(oR (Ml.cs r1)),(false,[.tr true (T.int i64 4)])],(nu 4)) else d7 F0 D3 (V8) [(wMl m)] fun (r4:Int)=>bif decide (m.c.1 < i64.wrap (r4+1)) then gl r1.2.length<|gl r1.3.length<|gl r1.2.length<|gl r1.3.length<|some ([(oR (Ml.cs r1)),(false,[.tr true (T.int i64 5)])],(nu 4)) else bif decide (0≤r2.1) then gd (decide (0≤r2.1)&&(r2.1.toNat.blt r1.2.length&&true))<|gd ((0+r2.1.toNat).blt r1.2.length&&true&&(q1.isArr&&q1.wd.beq 2))<|gd ((0+r2.1.toNat).blt r1.2.length&&true&&true&&(q2.get [0+r2.1.toNat,4+0]).isArr)<|gd (q1.ln.ble (q2.get [0+r2.1.toNat,4+0]).ln&&Nat.beq 2 (q2.get [0+r2.1.toNat,4+0]).wd)<|d7 a5O a3y (c6J) [(3,false,[C.tr true (T.arr 2 q1.ln (q2.get [0+r2.1.toNat,4+0]).fn)]),(0,false,[C.tr false (T.int i64 0)]),(3,false,[C.tr true (T.arr 2 1 (i4 [[T.int i64 h.1,T.int i64 h.2]]))])] fun (r5:List Hd)=>let q0:=T.arr 2 r5.length (eL 2 Hd.cs r5).fn;let q4:=b7 (0+r2.1.toNat) 4 q0 q3;gd (decide (0≤r2.1)&&(r2.1.toNat.blt r1.2.length&&true))<|gl r5.length<|gd ((0+r2.1.toNat).blt r1.2.length&&true&&true)<|gd ((0+r1.2.length).ble r1.2.length)<|d7 a1p a0h (b2z) [(0,false,[C.tr false (T.arr 11 r1.2.length (l3 0 r1.2.length q4))]),(0,false,[C.fn 135 [Pt.pim 2 (v3 [T.int i64 h.1,T.int i64 h.2])]])] fun (r6:Int)=>bif decide (r6 < 0) then gl r1.2.length<|d7 R8 R9 (a6L) [(3,false,[C.tr true (T.arr 11 r1.2.length q4)]),(0,false,[C.tr false (T.int i64 (↑r1.2.length:Int))]),(3,false,[C.tr true (T.arr 11 1 (i4 [[T.int i64 h.1,T.int i64 h.2,T.int i64 up.1,T.int i64 up.2,T.arr 2 0 fun x x_1=>T.hole,T.int i64 0,T.int i64 1,T.bool true,T.int i64 0,T.arr 1 0 fun x x_1=>T.hole,T.arr 1 0 fun x x_1=>T.hole]]))])] fun (r7:List Rm)=>gl r7.length<|gl r7.length<|gl r1.3.length<|gl r7.length<|gl r1.3.length<|some ([(true,[.tr true (T.int i64 r1.c.1),.tr true (T.int i64 r1.c.2),.tr true (T.int i64 r1.c.3),.tr true (T.int i64 r1.c.4),.tr true (T.int i64 r1.c.5),.tr true (T.int i64 r1.c.6),.tr true (.arr (11) (r7.length) ((eL 11 Rm.cs r7).fn)),.tr true (.arr (1) (r1.3.length) ((eL 1 b6 r1.3).fn))]),(false,[.tr true (T.int i64 0)])],(nu 4)) else gl r1.2.length<|d7 R8 R9 (a6L) [(3,false,[C.tr true (T.arr 11 r1.2.length q4)]),(0,false,[C.tr false (T.int i64 r6)]),(3,false,[C.tr true (T.arr 11 1 (i4 [[T.int i64 h.1,T.int i64 h.2,T.int i64 up.1,T.int i64 up.2,T.arr 2 0 fun x x_1=>T.hole,T.int i64 0,T.int i64 1,T.bool true,T.int i64 0,T.arr 1 0 fun x x_1=>T.hole,T.arr 1 0 fun x x_1=>T.hole]]))])] fun (r8:List Rm)=>gl r8.length<|gl r8.length<|gl r1.3.length<|gl r8.length<|gl r1.3.length<|some ([(true,[.tr true (T.int i64 r1.c.1),.tr true (T.int i64 r1.c.2),.tr true (T.int i64 r1.c.3),.tr true (T.int i64 r1.c.4),.tr true (T.int i64 r1.c.5),.tr true (T.int i64 r1.c.6),.tr true (.arr (11) (r8.length) ((eL 11 Rm.cs r8).fn)),.tr true (.arr (1) (r1.3.length) ((eL 1 b6 r1.3).fn))]),(false,[.tr true (T.int i64 0)])],(nu 4)) else gd ((0+r1.2.length).ble r1.2.length)<|d7 a1p a0h (b2z) [(0,false,[C.tr false q5]),(0,false,[C.fn 135 [Pt.pim 2 (v3 [T.int i64 h.1,T.int i64 h.2])]])] fun (r9:Int)=>bif decide (r9 < 0) then gl r1.2.length<|d7 R8 R9 (a6L) [(3,false,[C.tr true q2]),(0,false,[C.tr false (T.int i64 (↑r1.2.length:Int))]),(3,false,[C.tr true (T.arr 11 1 (i4 [[T.int i64 h.1,T.int i64 h.2,T.int i64 up.1,T.int i64 up.2,T.arr 2 0 fun x x_1=>T.hole,T.int i64 0,T.int i64 1,T.bool true,T.int i64 0,T.arr 1 0 fun x x_1=>T.hole,T.arr 1 0 fun x x_1=>T.hole]]))])] fun (r10:List Rm)=>gl r10.length<|gl r10.length<|gl r1.3.length<|gl r10.length<|gl r1.3.length<|some ([(true,[.tr true (T.int i64 r1.c.1),.tr true (T.int i64 r1.c.2),.tr true (T.int i64 r1.c.3),.tr true (T.int i64 r1.c.4),.tr true (T.int i64 r1.c.5),.tr true (T.int i64 r1.c.6),.tr true (.arr (11) (r10.length) ((eL 11 Rm.cs r10).fn)),.tr true (.arr (1) (r1.3.length) ((eL 1 b6 r1.3).fn))]),(false,[.tr true (T.int i64 0)])],(nu 4)) else gl r1.2.length<|d7 R8 R9 (a6L) [(3,false,[C.tr true q2]),(0,false,[C.tr false (T.int i64 r9)]),(3,false,[C.tr true (T.arr 11 1 (i4 [[T.int i64 h.1,T.int i64 h.2,T.int i64 up.1,T.int i64 up.2,T.arr 2 0 fun x x_1=>T.hole,T.int i64 0,T.int i64 1,T.bool true,T.int i64 0,T.arr 1 0 fun x x_1=>T.hole,T.arr 1 0 fun x x_1=>T.hole]]))])] fun (r11:List Rm)=>gl r11.length<|gl r11.length<|gl r1.3.length<|gl r11.length<|gl r1.3.length<|some ([(true,[.tr true (T.int i64 r1.c.1),.tr true (T.int i64 r1.c.2),.tr true (T.int i64 r1.c.3),.tr true (T.int i64 r1.c.4),.tr true (T.int i64 r1.c.5),.tr true (T.int i64 r1.c.6),.tr true (.arr (11) (r11.length) ((eL 11 Rm.cs r11).fn)),.tr true (.arr (1) (r1.3.length) ((eL 1 b6 r1.3).fn))]),(false,[.tr true (T.int i64 0)])],(nu 4)) else bif !b then gl r1.2.length<|gl r1.3.length<|gl r1.2.length<|gl r1.3.length<|some ([(oR (Ml.cs r1)),(false,[.tr true (T.int i64 4)])],(nu 4)) else d7 F0 D3 (V8) [(wMl m)] fun (r12:Int)=>bif decide (m.c.1 < i64.wrap (r12+1)) then gl r1.2.length<|gl r1.3.length<|gl r1.2.length<|gl r1.3.length<|some ([(oR (Ml.cs r1)),(false,[.tr true (T.int i64 5)])],(nu 4)) else gd ((0+r1.2.length).ble r1.2.length)<|d7 a1p a0h (b2z) [(0,false,[C.tr false q5]),(0,false,[C.fn 135 [Pt.pim 2 (v3 [T.int i64 h.1,T.int i64 h.2])]])] fun (r13:Int)=>bif decide (r13 < 0) then gl r1.2.length<|d7 R8 R9 (a6L) [(3,false,[C.tr true q2]),(0,false,[C.tr false (T.int i64 (↑r1.2.length:Int))]),(3,false,[C.tr true (T.arr 11 1 (i4 [[T.int i64 h.1,T.int i64 h.2,T.int i64 up.1,T.int i64 up.2,T.arr 2 0 fun x x_1=>T.hole,T.int i64 0,T.int i64 1,T.bool true,T.int i64 0,T.arr 1 0 fun x x_1=>T.hole,T.arr 1 0 fun x x_1=>T.hole]]))])] fun (r14:List Rm)=>gl r14.length<|gl r14.length<|gl r1.3.length<|gl r14.length<|gl r1.3.length<|some ([(true,[.tr true (T.int i64 r1.c.1),.tr true (T.int i64 r1.c.2),.tr true (T.int i64 r1.c.3),.tr true (T.int i64 r1.c.4),.tr true (T.int i64 r1.c.5),.tr true (T.int i64 r1.c.6),.tr true (.arr (11) (r14.length) ((eL 11 Rm.cs r14).fn)),.tr true (.arr (1) (r1.3.length) ((eL 1 b6 r1.3).fn))]),(false,[.tr true (T.int i64 0)])],(nu 4)) else gl r1.2.length<|d7 R8 R9 (a6L) [(3,false,[C.tr true q2]),(0,false,[C.tr false (T.int i64 r13)]),(3,false,[C.tr true (T.arr 11 1 (i4 [[T.int i64 h.1,T.int i64 h.2,T.int i64 up.1,T.int i64 up.2,T.arr 2 0 fun x x_1=>T.hole,T.int i64 0,T.int i64 1,T.bool true,T.int i64 0,T.arr 1 0 fun x x_1=>T.hole,T.arr 1 0 fun x x_1=>T.hole]]))])] fun (r15:List Rm)=>gl r15.length<|gl r15.length<|gl r1.3.length<|gl r15.length<|gl r1.3.length<|some ([(true,[.tr true (T.int i64 r1.c.1),.tr true (T.int i64 r1.c.2),.tr true (T.int i64 r1.c.3),.tr true (T.int i64 r1.c.4),.tr true (T.int i64 r1.c.5),.tr true (T.int i64 r1.c.6),.tr true (.arr (11) (r15.length) ((eL 11 Rm.cs r15).fn)),.tr true (.arr (1) (r1.3.length) ((eL 1 b6 r1.3).fn))]),(false,[.tr true (T.int i64 0)])],(nu 4))):=by kernel_rfl
end Go.Mach.F
namespace Go.Mach.F
open Go Go.Mach Go.Proofs.Tryz Go.IntKind
theorem d2v (l:List Rm) (h:Hd):∃ p:Nat,a8P l h=(p:Int)∧p≤l.length∧(∀ i,i < p→¬ h.slot < (l.getD i zRm).h.slot)∧(p < l.length→h.slot < (l.getD p zRm).h.slot):=by
 unfold a8P gtx
 cases hf:(List.range l.length).find? (fun i=>decide (h.slot < (l.getD i zRm).h.slot)) with
 | none =>
  refine ⟨l.length,by simp,Nat.le_refl _,fun i hi=>?_,fun e=>absurd e (Nat.lt_irrefl _)⟩
  have:=List.find?_eq_none.1 hf i (List.mem_range.2 hi)
  simpa using this
 | some i =>
  obtain ⟨h1,h2,h3⟩:=List.find?_range_eq_some.1 hf
  have hi:=List.mem_range.1 h2
  refine ⟨i,?_,by omega,fun j hj=>?_,fun _=>of_decide_eq_true h1⟩
  ·dsimp only
   rw [decide_eq_false (by omega),cond_false]
  ·have:=h3 j hj
   simpa using this
theorem c0U (l:List Rm) (h:Hd):0≤a8P l h∧a8P l h≤(l.length:Int):=by
 obtain ⟨p,e,h1,_⟩:=d2v l h
 rw [e]
 omega
theorem e1M (l:List Rm) (h:Hd) (h0:a1p (l,h)):body prog (b3 [(a7P,b1d)]) a6M (l.length+1) b0c (a0h (l,h))=some (erI 2 (b2z (l,h))):=by
 have hlm:=lm
 have hl:l.length≤LM:=h0
 unfold a0h b2z
 dsimp only
 rw [e5s]
 have hst:a6N l h 0=(fun i:Nat=>a6N l h (i:Nat)) 0:=rfl
 rw [hst,a6j l.length (fun i:Nat=>a6N l h (i:Nat)) (b4Y l h l.length) 0 (fun i=>decide (h.slot < (l.getD i zRm).h.slot)) .ret (fun e=>by cases e) (fun i:Nat=>b4X l h (i:Nat)) (fun i K hi=>?_) (fun K=>?_) _ (Nat.le_refl _)]
 ·unfold gtx
  cases (List.range l.length).find? (fun i=>decide (h.slot < (l.getD i zRm).h.slot)) with
  | none=>exact (c8Z l h _ _).trans rfl
  | some i=>exact (c8Y l h _ _).trans rfl
 ·have hx:=List.getElem?_eq_getElem hi
  obtain ⟨x,hxe⟩:∃ x,x=l[i]:=⟨_,rfl⟩
  rw [← hxe] at hx
  have hg:l.getD i zRm=x:=by rw [List.getD_eq_getElem?_getD,hx];rfl
  have w1:i64.wrap ((i:Int)+1)=((i+1:Nat):Int):=o3 (by omega)
  rw [b9J,hg]
  simp (implicitDefEqProofs:=false) only [f4,hi,d6 hx,Rm.cs,w1]
 ·rw [b9J]
  simp (implicitDefEqProofs:=false) only [p8,Nat.lt_irrefl,decide_false,cond_false]
theorem f1L:d8 prog e1J e1H:=g8 c1N fun x hx =>
 b9 (φ:=(b3 [(a7P,b1d)])) (a9 f2Q b5) d9 (kp:=a6M) (n:=x.1.length+1) func134 (c:=d3 b0c) (by kernel_rfl) (e1M x.1 x.2 hx) (b8 (by kernel_rfl))
theorem e9m (h up:Hd):i4 [[T.int i64 h.slot,T.int i64 h.gen,T.int i64 up.slot,T.int i64 up.gen,T.arr 2 0 fun _ _=>T.hole,T.int i64 0,T.int i64 1,T.bool true,T.int i64 0,T.arr 1 0 fun _ _=>T.hole,T.arr 1 0 fun _ _=>T.hole]]=atL Rm.cs [E3 h up]:=by
 rw [← a9x Rm.cs]
 rfl
theorem d6a (h:Hd):i4 [[T.int i64 h.slot,T.int i64 h.gen]]=atL Hd.cs [h]:=by
 rw [← a9x Hd.cs]
 rfl
theorem hd0 (up:Hd):(bif up.slot==0 then bif up.gen==0 then true else false else false)=decide (up=⟨0,0⟩):=by
 rcases up with ⟨a,b⟩
 rw [A1,A1]
 by_cases h1:a=0 <;> by_cases h2:b=0 <;> simp [h1,h2]
theorem d4 (n:Nat):decide ((4:Int)≤(n:Int))=decide (4≤n):=by
 by_cases h:4≤n
 ·rw [decide_eq_true h,decide_eq_true (by omega)]
 ·rw [decide_eq_false h,decide_eq_false (by omega)]
theorem e5v (l:List Rm) (k:Int) (h:Hd):(a4D l k h).length=l.length:=by
 unfold a4D
 cases decide (0≤k) <;> simp
theorem e1N (m:Ml) (up h:Hd) (b:Bool) (n:Nat) (h0:a6O (m,up,h,b)):body prog e5t c6N n d2u (a2w (m,up,h,b))=some ([oR (b6e (m,up,h,b)).1.cs,oT (.int .i64 (b6e (m,up,h,b)).2)],[nul,nul,nul,nul]):=by
 have hlm:=lm
 obtain ⟨h1,h2⟩:ok_RmS m.rooms∧m6 m.log:=h0
 have hl:m.rooms.length≤LM:=h1.1
 have c0:A9 m:=⟨h1,h2⟩
 have c1:Q1 (m,up):=hl
 have c2:F0 m:=hl
 have c3:a0z (m,up):=hl
 have hnew:=e9m h up
 unfold a2w b6e a5P b7j
 dsimp only
 rw [e5u]
 try simp (implicitDefEqProofs:=false) only [l7,Ml.cs,Hd.cs,hd0]
 rw [b4 (a3s c0) (a3t c0)]
 simp (implicitDefEqProofs:=false) only [a5G,f4,i6,Nat.le_refl]
 by_cases eu:up=⟨0,0⟩
 ·have hkr:a4D m.rooms (-1) h=m.rooms:=rfl
  simp (implicitDefEqProofs:=false) only [decide_eq_true eu,Bool.not_true,cond_true,cond_false]
  cases b with
  | false=>rfl
  | true =>
   simp (implicitDefEqProofs:=false) only [Bool.not_true,cond_true,cond_false]
   rw [b4 (a4X c2) (a4Y c2)]
   simp (implicitDefEqProofs:=false) only [a7K]
   by_cases a5:m.c.chunks < i64.wrap (tkn m.rooms+1)
   ·simp (implicitDefEqProofs:=false) only [a5,decide_true,cond_true]
    rfl
   simp (implicitDefEqProofs:=false) only [a5,decide_false,cond_false,G8]
   have c7:a1p (m.rooms,h):=hl
   have c8:R8 (m.rooms,a8P (m.rooms) h,E3 h up):=⟨(c0U _ _).1,(c0U _ _).2,hl⟩
   rw [b4 (d5Y c7) (d5Z c7)]
   simp (implicitDefEqProofs:=false) only [e1I,f4,i6,Nat.le_refl,hnew]
   have hp:a8P (m.rooms) h=bif decide (gtx (m.rooms) h < 0) then (((m.rooms).length:Nat):Int) else gtx (m.rooms) h:=rfl
   by_cases a7:gtx (m.rooms) h < 0
   ·rw [decide_eq_true a7,cond_true] at hp
    rw [hp] at c8
    simp (implicitDefEqProofs:=false) only [a7,decide_true,cond_true,List.length_set] at c8 ⊢
    rw [b4 (b7h c8) (b7i c8)]
    simp (implicitDefEqProofs:=false) only [c0T,f4,i6,Nat.le_refl,b2y,hkr,hp,List.length_set]
    rfl
   ·rw [decide_eq_false a7,cond_false] at hp
    rw [hp] at c8
    simp (implicitDefEqProofs:=false) only [a7,decide_false,cond_false,List.length_set] at c8 ⊢
    rw [b4 (b7h c8) (b7i c8)]
    simp (implicitDefEqProofs:=false) only [c0T,f4,i6,Nat.le_refl,b2y,hkr,hp]
    rfl
 ·simp (implicitDefEqProofs:=false) only [decide_eq_false eu,Bool.not_false,cond_true,cond_false]
  rw [b4 (b5Y c1) (b5Z c1)]
  simp (implicitDefEqProofs:=false) only [b9y,w7]
  by_cases e:(rsv m up).2=0
  case neg =>
   simp (implicitDefEqProofs:=false) only [e,decide_false,Bool.not_false,cond_true,cond_false]
   rfl
  have hk:=a3r e
  have hx:=A2 hk.2
  have e0:=hk.1
  have e1:=hk.2
  simp (implicitDefEqProofs:=false) only [e,decide_true,Bool.not_true,cond_true,cond_false]
  rw [b4 (d7Y c3) (d7Z c3)]
  simp (implicitDefEqProofs:=false) only [e1c,d4 (dpn m.rooms m.rooms.length up)]
  by_cases a4:4≤dpn m.rooms m.rooms.length up
  ·simp (implicitDefEqProofs:=false) only [a4,decide_true,cond_true]
   rfl
  simp (implicitDefEqProofs:=false) only [a4,decide_false,cond_false]
  cases b with
  | false=>rfl
  | true =>
   simp (implicitDefEqProofs:=false) only [Bool.not_true,cond_true,cond_false]
   rw [b4 (a4X c2) (a4Y c2)]
   simp (implicitDefEqProofs:=false) only [a7K]
   by_cases a5:m.c.chunks < i64.wrap (tkn m.rooms+1)
   ·simp (implicitDefEqProofs:=false) only [a5,decide_true,cond_true]
    rfl
   obtain ⟨x,hxe⟩:∃ x,x=m.rooms.getD (rsv m up).1.toNat zRm:=⟨_,rfl⟩
   have hkr:a4D m.rooms (rsv m up).1 h=m.rooms.set (rsv m up).1.toNat { x with kids:=h::x.kids }:=by
    unfold a4D
    rw [decide_eq_true e0,cond_true,← hxe]
   rw [← hxe] at hx
   have hy:=h1.2 _ (List.mem_of_getElem? hx)
   have c6:a5O (x.kids,0,h):=⟨Int.le_refl _,Int.natCast_nonneg _,hy.1.1⟩
   have hik:V9 x.kids 0 h=h::x.kids:=rfl
   simp (implicitDefEqProofs:=false) only [f4,a5,decide_false,cond_false,e0,e1,Nat.add_zero,d6 hx,Rm.cs,T.get,i6,Nat.le_refl,Nat.beq_refl,d6a]
   rw [b4 (e5q c6) (e5r c6)]
   have h9:b7 (rsv m up).1.toNat 4 (T.arr 2 (h::x.kids).length (atL Hd.cs (h::x.kids))) (b7 (rsv m up).1.toNat 4 T.hole (atL Rm.cs m.rooms))=atL Rm.cs (m.rooms.set (rsv m up).1.toNat { x with kids:=h::x.kids }):=by
    rw [a3w]
    exact w6 hx rfl (by decide:4 < 11)
   have hsl:m.rooms.length=(m.rooms.set (rsv m up).1.toNat { x with kids:=h::x.kids }).length:=List.length_set.symm
   have hl2:(m.rooms.set (rsv m up).1.toNat { x with kids:=h::x.kids }).length≤LM:=by rw [← hsl];exact hl
   simp (implicitDefEqProofs:=false) only [e9h,hik,f4,e0,e1,i6,Nat.le_refl,h9]
   obtain ⟨l',hl'⟩:∃ l',l'=m.rooms.set (rsv m up).1.toNat { x with kids:=h::x.kids }:=⟨_,rfl⟩
   rw [← hl'] at hkr hsl hl2 ⊢
   rw [hsl,G8]
   have c7:a1p (l',h):=hl2
   have c8:R8 (l',a8P (l') h,E3 h up):=⟨(c0U _ _).1,(c0U _ _).2,hl2⟩
   rw [b4 (d5Y c7) (d5Z c7)]
   simp (implicitDefEqProofs:=false) only [e1I,f4,i6,Nat.le_refl,hnew]
   have hp:a8P (l') h=bif decide (gtx (l') h < 0) then (((l').length:Nat):Int) else gtx (l') h:=rfl
   by_cases a7:gtx (l') h < 0
   ·rw [decide_eq_true a7,cond_true] at hp
    rw [hp] at c8
    simp (implicitDefEqProofs:=false) only [a7,decide_true,cond_true,List.length_set] at c8 ⊢
    rw [b4 (b7h c8) (b7i c8)]
    simp (implicitDefEqProofs:=false) only [c0T,f4,i6,Nat.le_refl,b2y,hkr,hp,List.length_set]
    rfl
   ·rw [decide_eq_false a7,cond_false] at hp
    rw [hp] at c8
    simp (implicitDefEqProofs:=false) only [a7,decide_false,cond_false,List.length_set] at c8 ⊢
    rw [b4 (b7h c8) (b7i c8)]
    simp (implicitDefEqProofs:=false) only [c0T,f4,i6,Nat.le_refl,b2y,hkr,hp]
    rfl
theorem f1M:d8 prog e1L e1K:=g8 c1O fun x hx =>
 b9 (φ:=e5t) (a9 a5J (a9 b9A (a9 e1d (a9 f2R (a9 e9i (a9 f1L (a9 e9j b5))))))) d9 (kp:=c6N) (n:=0) func84 (c:=d3 d2u) (by kernel_rfl) (e1N x.1 x.2.1 x.2.2.1 x.2.2.2 (0) hx) (b8 (by kernel_rfl))
end Go.Mach.F
namespace Go.Mach.F
open Go Go.Mach Go.Proofs.Tryz Go.IntKind
--=set_option maxRecDepth 100000
def vR (cs:List T):Arg:=(3,(true,cs.map fun t=>.tr true t))
theorem f1N {cs cs':List T} (h:vR cs=vR cs'):cs=cs':=by
 have e:=congrArg (fun a:Arg=>a.2.2) h
 exact (List.map_inj_right (fun x y h=>by cases h;rfl)).1 e
def Y4 (y:List Rm × Rm):Prop:=y.1.length≤LM
def U1 (y:List Rm × Rm):List Arg:=[vT (eL 11 Rm.cs y.1),vR y.2.cs]
def a7Q (y:List Rm × Rm):List Rm:=V9 y.1 (a8P y.1 y.2.h) y.2
noncomputable def e1O:Ent:=ent [3,3] Y4 U1 (fun l=>([oT (eL 11 Rm.cs l)],[nul,nul])) a7Q
theorem c1P (x y:List Rm × Rm) (h:U1 x=U1 y):x=y:=by
 obtain ⟨l1,x1⟩:=x
 obtain ⟨l2,x2⟩:=y
 simp only [U1,List.cons.injEq,and_true,true_and] at h
 obtain ⟨e0,e1⟩:=h
 obtain rfl:=m8 Rm.cs_inj (a5b e0)
 obtain rfl:=Rm.cs_ext (f1N e1)
 rfl
theorem d6b {l:List Rm} {r:Rm} (h:Y4 (l,r)):dom Y4 U1 [(3,false,[C.tr true (T.arr 11 l.length (atL Rm.cs l))]),(3,true,[C.tr true (T.int i64 r.h.slot),C.tr true (T.int i64 r.h.gen),C.tr true (T.int i64 r.up.slot),C.tr true (T.int i64 r.up.gen),C.tr true (T.arr 2 r.kids.length (atL Hd.cs r.kids)),C.tr true (T.int i64 r.ep),C.tr true (T.int i64 r.chunks),C.tr true (T.bool r.cur),C.tr true (T.int i64 r.bump),C.tr true (T.arr 1 r.things.length (atL Sf.cs r.things)),C.tr true (T.arr 1 r.tags.length (atL b6 r.tags))])]=true:=i3 (ea:=U1) (x:=(l,r)) h
theorem d6c {l:List Rm} {r:Rm} (h:Y4 (l,r)):inv Y4 U1 [(3,false,[C.tr true (T.arr 11 l.length (atL Rm.cs l))]),(3,true,[C.tr true (T.int i64 r.h.slot),C.tr true (T.int i64 r.h.gen),C.tr true (T.int i64 r.up.slot),C.tr true (T.int i64 r.up.gen),C.tr true (T.arr 2 r.kids.length (atL Hd.cs r.kids)),C.tr true (T.int i64 r.ep),C.tr true (T.int i64 r.chunks),C.tr true (T.bool r.cur),C.tr true (T.int i64 r.bump),C.tr true (T.arr 1 r.things.length (atL Sf.cs r.things)),C.tr true (T.arr 1 r.tags.length (atL b6 r.tags))])]=(l,r):=g9 c1P (x:=(l,r)) h
theorem e1P (l:List Rm) (r:Rm):a7Q (l,r)=V9 l (a8P l r.h) r:=rfl
def e1Q:Nat:=117
noncomputable abbrev b2A:Func:=f117
def a8Q:List (Nat × List Nat):=[(0,[0,12,13,2,6]),(1,[0,12,13,20,2,6]),(2,[0,12,13,20,84,2,6]),(3,[0,12,13,20,2,6]),(4,[16,2,6])]
def d6d:List Nat:=[3,3]
def a6P (l:List Rm) (r:Rm) (x20:Int):St:=[(0,⟨z0,[(false,[.tr true (eL 11 Rm.cs l)])]⟩),vp 3 11,vb 3 [ci r.h.1,ci r.h.2,ci r.up.1,ci r.up.2,ca (2) (r.3.length) ((eL 2 Hd.cs r.3).fn),ci r.4,ci r.5,co r.6,ci r.7,ca (1) (r.8.length) ((eL 1 Sf.cs r.8).fn),ca (1) (r.9.length) ((eL 1 b6 r.9).fn)],vi 5 x20]
def a9C (l:List Rm) (r:Rm) (x20:Int):St:=[(0,⟨z0,[(false,[.tr true (eL 11 Rm.cs l)])]⟩),vp 3 11,vb 3 [ci r.h.1,ci r.h.2,ci r.up.1,ci r.up.2,ca (2) (r.3.length) ((eL 2 Hd.cs r.3).fn),ci r.4,ci r.5,co r.6,ci r.7,ca (1) (r.8.length) ((eL 1 Sf.cs r.8).fn),ca (1) (r.9.length) ((eL 1 b6 r.9).fn)],vi 5 x20,ve 84]
theorem b9K (l:List Rm) (r:Rm) (x20:Int) (n:Nat) (K:Ex→St→Res):i8 prog (b3 []) a8Q b2A [1,1,0,0] n (a6P l r x20) K=(bif decide (x20 < (↑l.length:Int)) then gd (decide (0≤x20)&&(x20.toNat.blt l.length&&true))<|gd ((0+x20.toNat).blt l.length&&true&&T.isI i64 (atL Rm.cs l (0+x20.toNat) (0+0+0)))<|bif decide ((atL Rm.cs l (0+x20.toNat) (0+0)).toI≤r.h.1) then K .normal (a6P l r (i64.wrap (x20+1))) else K (.exit 0) (a9C l r x20) else K (.exit 0) (a9C l r x20)):=by kernel_rfl
theorem c9a (l:List Rm) (r:Rm) (x20:Int) (n:Nat):d5 prog (b3 []) a8Q b2A d6d [1,1,0,0] [] n (.exit 0) (a9C l r x20)=(gd (decide (0≤x20)&&decide (x20≤(↑l.length:Int)))<|gd ((0+0+(x20.toNat - 0)).ble l.length&&true)<|gd (((0+(x20.toNat - 0))*136).ble 70368744177664&&(0+(x20.toNat - 0)).ble 70368744177664)<|gl r.3.length<|gl r.8.length<|gl r.9.length<|gd ((0+(x20.toNat - 0)).ble (0+(x20.toNat - 0))&&true)<|gd (((0+(x20.toNat - 0)+1)*136).ble 70368744177664&&(0+(x20.toNat - 0)+1).ble 70368744177664)<|gd (decide (0≤x20)&&(decide (x20≤(↑l.length:Int))&&decide ((↑l.length:Int)≤(↑l.length:Int))))<|gd ((0+(x20.toNat - 0)+1).ble (0+(x20.toNat - 0)+1)&&true)<|gd ((0+x20.toNat+((↑l.length:Int).toNat - x20.toNat)).ble l.length&&true)<|gd (((0+(x20.toNat - 0)+1+((↑l.length:Int).toNat - x20.toNat))*136).ble 70368744177664&&(0+(x20.toNat - 0)+1+((↑l.length:Int).toNat - x20.toNat)).ble 70368744177664)<|gd ((0+(x20.toNat - 0)+1+((↑l.length:Int).toNat - x20.toNat)).ble (0+(x20.toNat - 0)+1+((↑l.length:Int).toNat - x20.toNat))&&true)<|gd ((0+(x20.toNat - 0)+1+((↑l.length:Int).toNat - x20.toNat)).ble (0+(x20.toNat - 0)+1+((↑l.length:Int).toNat - x20.toNat))&&true)<|some ([(false,[.tr true (.arr (11) (0+(x20.toNat - 0)+1+((↑l.length:Int).toNat - x20.toNat)) (n6 (0+(x20.toNat - 0)+1) (n6 (0+(x20.toNat - 0)) (n6 0 (i4 []) (shF 0 (eL 11 Rm.cs l).fn)) (shF 0 (i4 [[T.int i64 r.h.1,T.int i64 r.h.2,T.int i64 r.up.1,T.int i64 r.up.2,T.arr 2 r.3.length (eL 2 Hd.cs r.3).fn,T.int i64 r.4,T.int i64 r.5,T.bool r.6,T.int i64 r.7,T.arr 1 r.8.length (eL 1 Sf.cs r.8).fn,T.arr 1 r.9.length (eL 1 b6 r.9).fn]]))) (shF (0+x20.toNat) (b4s 0 (x20.toNat - 0) (eL 11 Rm.cs l).fn))))])],(nu 2))):=by kernel_rfl
theorem e5w (l:List Rm) (r:Rm) (n:Nat):body prog (b3 []) a8Q n b2A [vT (eL 11 Rm.cs l),vR r.cs]=(gl r.3.length<|gl r.8.length<|gl r.9.length<|j5 prog (b3 []) a8Q b2A [1,1,0,0] n n (a6P l r (0)) (d5 prog (b3 []) a8Q b2A d6d [1,1,0,0] [] n)):=by kernel_rfl
def a6Q (x:Ml × Hd × Hd × Bool):Prop:=ok_RmS x.1.rooms∧m6 x.1.log
def a2x (x:Ml × Hd × Hd × Bool):List Arg:=[aR x.1.cs,aR x.2.1.cs,aR x.2.2.1.cs,aB x.2.2.2]
def b6f (x:Ml × Hd × Hd × Bool):Ml × Int:=a5P x.1 x.2.1 x.2.2.1 x.2.2.2
noncomputable def e1R:Ent:=ent [] a6Q a2x (fun (x:Ml × Int)=>([oR x.1.cs,oT (.int .i64 x.2)],[nul,nul,nul,nul])) b6f
theorem c1Q (x y:Ml × Hd × Hd × Bool) (h:a2x x=a2x y):x=y:=by
 obtain ⟨m1,up1,h1,b1⟩:=x
 obtain ⟨m2,up2,h2,b2⟩:=y
 simp only [a2x,List.cons.injEq,and_true,true_and] at h
 obtain ⟨e0,e1,e2,e3⟩:=h
 obtain rfl:=Ml.cs_ext (j6 e0)
 obtain rfl:=Hd.cs_ext (j6 e1)
 obtain rfl:=Hd.cs_ext (j6 e2)
 obtain rfl:=b5J e3
 rfl
theorem e9n {m:Ml} {up:Hd} {h:Hd} {b:Bool} (h0:a6Q (m,up,h,b)):dom a6Q a2x [(wMl m),(wHd up),(wHd h),(0,false,[C.tr false (T.bool b)])]=true:=i3 (ea:=a2x) (x:=(m,up,h,b)) h0
theorem e9o {m:Ml} {up:Hd} {h:Hd} {b:Bool} (h0:a6Q (m,up,h,b)):inv a6Q a2x [(wMl m),(wHd up),(wHd h),(0,false,[C.tr false (T.bool b)])]=(m,up,h,b):=g9 c1Q (x:=(m,up,h,b)) h0
theorem f1O (m:Ml) (up:Hd) (h:Hd) (b:Bool):b6f (m,up,h,b)=a5P m up h b:=rfl
def e1S:Nat:=71
noncomputable abbrev d2w:Func:=f71
def c6O:List (Nat × List Nat):=[(0,kq [6,9,11,13,17,21,30,58,70,72,74,76,80,88,106,154]),(1,kq [6,9,11,13,17,21,30,58,70,72,74,76,80,88,106,154]),(2,kq [6,9,11,13,17,21,22,30,58,70,72,74,76,80,88,106,154]),(3,kq [6,9,11,13,17,21,22,24,30,58,70,72,74,76,80,88,106,154]),(4,kq [6,9,11,13,17,21,22,24,27,30,58,70,72,74,76,80,88,106,154]),(5,kq [6,9,11,13,17,21,22,24,30,38,58,70,72,74,76,80,88,106,154]),(6,kq [6,9,11,13,17,21,22,24,30,58,70,72,74,76,80,88,106,154]),(7,kq [6,9,11,13,17,21,22,24,30,52,58,70,72,74,76,80,88,106,154]),(8,kq [17,18,21,30,58,80,88,106,154]),(9,kq [6,9,11,13,17,21,22,30,58,62,80,88,106,154]),(10,kq [17,18,21,30,58,80,88,106,154]),(11,kq [9,11,13,17,21,22,30,58,80,82,88,106,154]),(12,kq [17,18,21,30,58,80,88,106,154]),(13,kq [11,13,17,21,22,30,58,80,88,90,106,154]),(14,kq [17,18,21,30,58,80,88,106,154]),(15,kq [11,13,17,21,22,30,58,80,88,106,110,154]),(16,kq [11,13,17,21,30,58,80,88,106,154]),(17,kq [17,21,30,58,80,88,106,154]),(18,kq [17,18,21,30,58,80,88,106,154])]
noncomputable abbrev e5x:Sems:=b3 [(C8,C7),(L0,K9),(c7Y,c7X),(b1b,b1a),(e1Q,e1O)]
theorem e5y (m:Ml) (up:Hd) (h:Hd) (b:Bool) (n:Nat):body prog e5x c6O n d2w [aR m.cs,aR up.cs,aR h.cs,aB b]=(d7 p9 w5 (E2) [(wMl m)] fun (r1:Ml)=>let q2:=T.arr 11 r1.2.length (eL 11 Rm.cs r1.2).fn;gl r1.2.length<|gl r1.3.length<|bif !bif up.1==0 then bif up.2==0 then true else false else false then d7 Q2 U0 (a4U) [(wMl m),(wHd up)] fun (r2:Int × Int)=>let q0:=atL Rm.cs r1.2 (0+r2.1.toNat) 4;let q1:=atL Rm.cs r1.2 (0+r2.1.toNat) (4+0);let q3:=n6 1 (i4 [[T.int i64 h.1,T.int i64 h.2]]) (n7 (l3 0 q0.ln (q2.get [0+r2.1.toNat,4]).fn));let q4:=b7 (0+r2.1.toNat) 4 (T.arr 2 (1+q0.ln) q3) (eL 11 Rm.cs r1.2).fn;bif r2.2 != 0 then gl r1.2.length<|gl r1.3.length<|gl r1.2.length<|gl r1.3.length<|some ([(oR (Ml.cs r1)),(false,[.tr true (T.int i64 r2.2)])],(nu 4)) else bif decide (0≤r2.1) then d7 a0y S3 (a9X) [(wMl m),(wHd up)] fun (r3:Int)=>bif decide (4≤r3) then gl r1.2.length<|gl r1.3.length<|gl r1.2.length<|gl r1.3.length<|some ([(oR (Ml.cs r1)),(false,[.tr true (T.int i64 3)])],(nu 4)) else bif !b then gl r1.2.length<|gl r1.3.length<|gl r1.2.length<|gl r1.3.length<|some ([(oR (Ml.cs r1)),(false,[.tr true (T.int i64 4)])],(nu 4)) else d7 B0 B1 (P7) [(wMl m)] fun (r4:Int)=>bif decide (m.c.1 < i64.wrap (r4+1)) then gl r1.2.length<|gl r1.3.length<|gl r1.2.length<|gl r1.3.length<|some ([(oR (Ml.cs r1)),(false,[.tr true (T.int i64 5)])],(nu 4)) else bif decide (0≤r2.1) then gd (decide (0≤r2.1)&&(r2.1.toNat.blt r1.2.length&&true))<|gd ((0+r2.1.toNat).blt r1.2.length&&true&&(q1.isArr&&q1.wd.beq 2))<|gd ((0+r2.1.toNat).blt r1.2.length&&true&&true&&(q2.get [0+r2.1.toNat,4+0]).isArr)<|gd (Nat.beq 2 (q2.get [0+r2.1.toNat,4+0]).wd&&(0+q1.ln).ble (q2.get [0+r2.1.toNat,4+0]).ln)<|gd (((1+q1.ln)*16).ble 70368744177664&&(1+q1.ln).ble 70368744177664)<|gd (decide (0≤r2.1)&&(r2.1.toNat.blt r1.2.length&&true))<|gd ((1+q1.ln).ble (1+q1.ln)&&true)<|gd ((0+r2.1.toNat).blt r1.2.length&&true&&true)<|gl r1.2.length<|d7 Y4 U1 (a7Q) [(3,false,[C.tr true (T.arr 11 r1.2.length q4)]),(3,true,[C.tr true (T.int i64 h.1),C.tr true (T.int i64 h.2),C.tr true (T.int i64 up.1),C.tr true (T.int i64 up.2),C.tr true (T.arr 2 0 fun x x_1=>T.hole),C.tr true (T.int i64 0),C.tr true (T.int i64 1),C.tr true (T.bool true),C.tr true (T.int i64 0),C.tr true (T.arr 1 0 fun x x_1=>T.hole),C.tr true (T.arr 1 0 fun x x_1=>T.hole)])] fun (r5:List Rm)=>gl r5.length<|gl r5.length<|gl r1.3.length<|gl r5.length<|gl r1.3.length<|some ([(true,[.tr true (T.int i64 r1.c.1),.tr true (T.int i64 r1.c.2),.tr true (T.int i64 r1.c.3),.tr true (T.int i64 r1.c.4),.tr true (T.int i64 r1.c.5),.tr true (T.int i64 r1.c.6),.tr true (.arr (11) (r5.length) ((eL 11 Rm.cs r5).fn)),.tr true (.arr (1) (r1.3.length) ((eL 1 b6 r1.3).fn))]),(false,[.tr true (T.int i64 0)])],(nu 4)) else gl r1.2.length<|d7 Y4 U1 (a7Q) [(3,false,[C.tr true q2]),(3,true,[C.tr true (T.int i64 h.1),C.tr true (T.int i64 h.2),C.tr true (T.int i64 up.1),C.tr true (T.int i64 up.2),C.tr true (T.arr 2 0 fun x x_1=>T.hole),C.tr true (T.int i64 0),C.tr true (T.int i64 1),C.tr true (T.bool true),C.tr true (T.int i64 0),C.tr true (T.arr 1 0 fun x x_1=>T.hole),C.tr true (T.arr 1 0 fun x x_1=>T.hole)])] fun (r6:List Rm)=>gl r6.length<|gl r6.length<|gl r1.3.length<|gl r6.length<|gl r1.3.length<|some ([(true,[.tr true (T.int i64 r1.c.1),.tr true (T.int i64 r1.c.2),.tr true (T.int i64 r1.c.3),.tr true (T.int i64 r1.c.4),.tr true (T.int i64 r1.c.5),.tr true (T.int i64 r1.c.6),.tr true (.arr (11) (r6.length) ((eL 11 Rm.cs r6).fn)),.tr true (.arr (1) (r1.3.length) ((eL 1 b6 r1.3).fn))]),(false,[.tr true (T.int i64 0)])],(nu 4)) else bif !b then gl r1.2.length<|gl r1.3.length<|gl r1.2.length<|gl r1.3.length<|some ([(oR (Ml.cs r1)),(false,[.tr true (T.int i64 4)])],(nu 4)) else d7 B0 B1 (P7) [(wMl m)] fun (r7:Int)=>bif decide (m.c.1 < i64.wrap (r7+1)) then gl r1.2.length<|gl r1.3.length<|gl r1.2.length<|gl r1.3.length<|some ([(oR (Ml.cs r1)),(false,[.tr true (T.int i64 5)])],(nu 4)) else bif decide (0≤r2.1) then gd (decide (0≤r2.1)&&(r2.1.toNat.blt r1.2.length&&true))<|gd ((0+r2.1.toNat).blt r1.2.length&&true&&(q1.isArr&&q1.wd.beq 2))<|gd ((0+r2.1.toNat).blt r1.2.length&&true&&true&&(q2.get [0+r2.1.toNat,4+0]).isArr)<|gd (Nat.beq 2 (q2.get [0+r2.1.toNat,4+0]).wd&&(0+q1.ln).ble (q2.get [0+r2.1.toNat,4+0]).ln)<|gd (((1+q1.ln)*16).ble 70368744177664&&(1+q1.ln).ble 70368744177664)<|gd (decide (0≤r2.1)&&(r2.1.toNat.blt r1.2.length&&true))<|gd ((1+q1.ln).ble (1+q1.ln)&&true)<|gd ((0+r2.1.toNat).blt r1.2.length&&true&&true)<|gl r1.2.length<|d7 Y4 U1 (a7Q) [(3,false,[C.tr true (T.arr 11 r1.2.length q4)]),(3,true,[C.tr true (T.int i64 h.1),C.tr true (T.int i64 h.2),C.tr true (T.int i64 up.1),C.tr true (T.int i64 up.2),C.tr true (T.arr 2 0 fun x x_1=>T.hole),C.tr true (T.int i64 0),C.tr true (T.int i64 1),C.tr true (T.bool true),C.tr true (T.int i64 0),C.tr true (T.arr 1 0 fun x x_1=>T.hole),C.tr true (T.arr 1 0 fun x x_1=>T.hole)])] fun (r8:List Rm)=>gl r8.length<|gl r8.length<|gl r1.3.length<|gl r8.length<|gl r1.3.length<|some ([(true,[.tr true (T.int i64 r1.c.1),.tr true (T.int i64 r1.c.2),.tr true (T.int i64 r1.c.3),.tr true (T.int i64 r1.c.4),.tr true (T.int i64 r1.c.5),.tr true (T.int i64 r1.c.6),.tr true (.arr (11) (r8.length) ((eL 11 Rm.cs r8).fn)),.tr true (.arr (1) (r1.3.length) ((eL 1 b6 r1.3).fn))]),(false,[.tr true (T.int i64 0)])],(nu 4)) else gl r1.2.length<|d7 Y4 U1 (a7Q) [(3,false,[C.tr true q2]),(3,true,[C.tr true (T.int i64 h.1),C.tr true (T.int i64 h.2),C.tr true (T.int i64 up.1),C.tr true (T.int i64 up.2),C.tr true (T.arr 2 0 fun x x_1=>T.hole),C.tr true (T.int i64 0),C.tr true (T.int i64 1),C.tr true (T.bool true),C.tr true (T.int i64 0),C.tr true (T.arr 1 0 fun x x_1=>T.hole),C.tr true (T.arr 1 0 fun x x_1=>T.hole)])] fun (r9:List Rm)=>gl r9.length<|gl r9.length<|gl r1.3.length<|gl r9.length<|gl r1.3.length<|some ([(true,[.tr true (T.int i64 r1.c.1),.tr true (T.int i64 r1.c.2),.tr true (T.int i64 r1.c.3),.tr true (T.int i64 r1.c.4),.tr true (T.int i64 r1.c.5),.tr true (T.int i64 r1.c.6),.tr true (.arr (11) (r9.length) ((eL 11 Rm.cs r9).fn)),.tr true (.arr (1) (r1.3.length) ((eL 1 b6 r1.3).fn))]),(false,[.tr true (T.int i64 0)])],(nu 4)) else bif !b then gl r1.2.length<|gl r1.3.length<|gl r1.2.length<|gl r1.3.length<|some ([(oR (Ml.cs r1)),(false,[.tr true (T.int i64 4)])],(nu 4)) else d7 B0 B1 (P7) [(wMl m)] fun (r10:Int)=>bif decide (m.c.1 < i64.wrap (r10+1)) then gl r1.2.length<|gl r1.3.length<|gl r1.2.length<|gl r1.3.length<|some ([(oR (Ml.cs r1)),(false,[.tr true (T.int i64 5)])],(nu 4)) else gl r1.2.length<|d7 Y4 U1 (a7Q) [(3,false,[C.tr true q2]),(3,true,[C.tr true (T.int i64 h.1),C.tr true (T.int i64 h.2),C.tr true (T.int i64 up.1),C.tr true (T.int i64 up.2),C.tr true (T.arr 2 0 fun x x_1=>T.hole),C.tr true (T.int i64 0),C.tr true (T.int i64 1),C.tr true (T.bool true),C.tr true (T.int i64 0),C.tr true (T.arr 1 0 fun x x_1=>T.hole),C.tr true (T.arr 1 0 fun x x_1=>T.hole)])] fun (r11:List Rm)=>gl r11.length<|gl r11.length<|gl r1.3.length<|gl r11.length<|gl r1.3.length<|some ([(true,[.tr true (T.int i64 r1.c.1),.tr true (T.int i64 r1.c.2),.tr true (T.int i64 r1.c.3),.tr true (T.int i64 r1.c.4),.tr true (T.int i64 r1.c.5),.tr true (T.int i64 r1.c.6),.tr true (.arr (11) (r11.length) ((eL 11 Rm.cs r11).fn)),.tr true (.arr (1) (r1.3.length) ((eL 1 b6 r1.3).fn))]),(false,[.tr true (T.int i64 0)])],(nu 4))):=by kernel_rfl
end Go.Mach.F
namespace Go.Mach.F
open Go Go.Mach Go.Proofs.Tryz Go.IntKind
def rI (r:List Int) (i:Nat):Int:=r.getD i 0
theorem c4V {r:List Int} {i:Nat} (h:i < r.length):r[i]?=some (rI r i):=by
 unfold rI
 rw [List.getD_eq_getElem?_getD,List.getElem?_eq_getElem h]
 rfl
/-- The first i and the last i have changed places. -/
def rv (l:List Int) (i:Nat):List Int:=(List.range l.length).map fun j=>if j < i∨l.length≤j+i then rI l (l.length - 1 - j) else rI l j
theorem b6g (l:List Int) (i:Nat):(rv l i).length=l.length:=by simp [rv]
theorem b6h (l:List Int) (i:Nat) {j:Nat} (h:j < l.length):(rv l i)[j]?=some (if j < i∨l.length≤j+i then rI l (l.length - 1 - j) else rI l j):=by
 unfold rv
 rw [List.getElem?_map,List.getElem?_range h]
 rfl
theorem e9p (l:List Int):rv l 0=l:=by
 refine List.ext_getElem? fun j=>?_
 by_cases h:j < l.length
 ·rw [b6h l 0 h,if_neg (by omega),c4V h]
 ·rw [List.getElem?_eq_none (by rw [b6g];omega),List.getElem?_eq_none (by omega)]
theorem e9q (l:List Int):rv l (l.length / 2)=l.reverse:=by
 refine List.ext_getElem? fun j=>?_
 by_cases h:j < l.length
 ·rw [b6h l _ h,List.getElem?_reverse h,c4V (show l.length - 1 - j < l.length by omega)]
  by_cases h1:j < l.length / 2∨l.length≤j+l.length / 2
  ·rw [if_pos h1]
  ·rw [if_neg h1,show l.length - 1 - j=j by omega]
 ·rw [List.getElem?_eq_none (by rw [b6g];omega),List.getElem?_eq_none (by rw [List.length_reverse];omega)]
theorem e9r (l:List Int) {i:Nat} (h:i < l.length / 2):((rv l i).set i (rI l (l.length - 1 - i))).set (l.length - 1 - i) (rI l i)=rv l (i+1):=by
 refine List.ext_getElem? fun j=>?_
 by_cases hj:j < l.length
 ·rw [b6h l _ hj]
  by_cases e1:j=l.length - 1 - i
  ·subst e1
   rw [List.getElem?_set_self (by rw [List.length_set,b6g];omega),if_pos (by omega),show l.length - 1 - (l.length - 1 - i)=i by omega]
  ·rw [List.getElem?_set_ne (Ne.symm e1)]
   by_cases e2:j=i
   ·subst e2
    rw [List.getElem?_set_self (by rw [b6g];omega),if_pos (by omega)]
   ·rw [List.getElem?_set_ne (Ne.symm e2),b6h l _ hj]
    by_cases h2:j < i∨l.length≤j+i
    ·rw [if_pos h2,if_pos (by omega)]
    ·rw [if_neg h2,if_neg (by omega)]
 ·rw [List.getElem?_eq_none (by rw [List.length_set,List.length_set,b6g];omega),List.getElem?_eq_none (by rw [b6g];omega)]
theorem e5z (l:List Int) (h:b0b l):body prog (b3 []) b2u (l.length+1) b7f (a5c l)=some ([],[oT (eI (c4T l))]):=by
 have hlm:=lm
 have hl:l.length≤LM:=h
 unfold a5c c4T
 rw [e9g]
 have w0:i64.wrap ((l.length:Int) - 1)=(l.length:Int) - 1 - ((0:Nat):Int):=by rw [IntKind.wrap_i64];omega
 have hst:a8O l 0 (i64.wrap ((l.length:Int) - 1)) l.length (atL b6 l)=(fun i:Nat=>a8O l (i:Nat) ((l.length:Int) - 1 - (i:Nat)) l.length (atL b6 (rv l i))) 0:=by
  rw [w0]
  simp only [e9p]
  rfl
 rw [hst,v5 (l.length / 2) (fun i:Nat=>a8O l (i:Nat) ((l.length:Int) - 1 - (i:Nat)) l.length (atL b6 (rv l i))) (b7g l (l.length / 2:Nat) ((l.length:Int) - 1 - (l.length / 2:Nat)) l.length (atL b6 l.reverse)) 0 (fun i K hi=>?_) (fun K=>?_) _ (by omega)]
 ·rw [d2p]
  simp only [oT,l7,List.length_reverse]
 ·have w1:i64.wrap ((l.length:Int) - 1 - (i:Int) - 1)=(l.length:Int) - 1 - ((i+1:Nat):Int):=by rw [IntKind.wrap_i64];omega
  have w2:((l.length:Int) - 1 - (i:Int)).toNat=l.length - 1 - i:=by omega
  have q1:(i:Int) < (l.length:Int) - 1 - (i:Int):=by omega
  have q2:0≤(l.length:Int) - 1 - (i:Int):=by omega
  have q3:l.length - 1 - i < l.length:=by omega
  have q4:i < l.length:=by omega
  have g1:=b6h l i q4
  have g2:=b6h l i q3
  rw [if_neg (by omega)] at g1 g2
  rw [c1M]
  simp (disch:=omega) only [f4,q1,q2,q3,q4,w1,w2,d6 g1,d6 g2,b6,o3]
  rw [w6 (y:=rI l (l.length - 1 - i)) g1 rfl (by decide:0 < 1),w6 (x:=rI l (l.length - 1 - i)) (y:=rI l i) (by rw [List.getElem?_set_ne (by omega),g2]) rfl (by decide:0 < 1),e9r l hi]
 ·have q1:¬ ((l.length / 2:Nat):Int) < (l.length:Int) - 1 - ((l.length / 2:Nat):Int):=by omega
  rw [c1M]
  simp only [q1,decide_false,cond_false,e9q]
theorem f2S:d8 prog e7b e7a:=g8 c4U fun x hx =>
 b9 (φ:=(b3 [])) b5 d9 (kp:=b2u) (n:=x.length+1) func225 (c:=d3 b7f) (by kernel_rfl) (e5z x hx) (b8 (by kernel_rfl))
theorem c6P (l:List Int) (n:Nat) (h:T3 l):body prog e5p b2w n b4W (J8 l)=some (erT 1 (eI (a5d l))):=by
 have c0:a3p l:=h
 have c1:b0b l:=h
 unfold J8 a5d
 rw [c8W,b4 (d1F c0) (d1G c0)]
 simp only [d8f,f4,i6,Nat.le_refl]
 rw [b4 (f1G c1) (f1H c1)]
 simp only [f2P,List.length_reverse,f4,i6,Nat.le_refl]
 simp only [erT,oT,l7,List.length_reverse]
 rfl
theorem d4h:d8 prog X1 X0:=g8 b2v fun x hx =>
 b9 (φ:=e5p) (a9 d8g (a9 f2S b5)) d9 (kp:=b2w) (n:=0) func191 (c:=d3 b4W) (by kernel_rfl) (c6P x (0) hx) (b8 (by kernel_rfl))
theorem c6Q (l:List Int) (h:T4 l):body prog (b3 []) Z3 (l.length+1) a0T (J9 l)=some (erT 1 (eI (a5e l))):=by
 have hlm:=lm
 have hl:l.length≤LM:=h
 unfold J9 a5e
 rw [c8X]
 have w0:i64.wrap ((l.length:Int) - 1)=(l.length:Int) - 1 - ((0:Nat):Int):=by rw [IntKind.wrap_i64];omega
 have hst:Y3 l 0 (i4 []) (i64.wrap ((l.length:Int) - 1))=(fun i:Nat=>Y3 l i (atL b6 (l.reverse.take i)) ((l.length:Int) - 1 - (i:Nat))) 0:=by
  rw [w0,a2h b6]
  rfl
 rw [hst,v5 l.length (fun i:Nat=>Y3 l i (atL b6 (l.reverse.take i)) ((l.length:Int) - 1 - (i:Nat))) (a5N l l.length (atL b6 l.reverse) ((l.length:Int) - 1 - (l.length:Nat))) 0 (fun i K hi=>?_) (fun K=>?_) _ (Nat.le_refl _)]
 ·rw [b9G]
  simp only [f4,i6,Nat.le_refl,erT,oT,l7,List.length_reverse]
  rfl
 ·have w1:i64.wrap ((l.length:Int) - 1 - (i:Int) - 1)=(l.length:Int) - 1 - ((i+1:Nat):Int):=by rw [IntKind.wrap_i64];omega
  have w2:((l.length:Int) - 1 - (i:Int)).toNat=l.length - 1 - i:=by omega
  have q2:0≤(l.length:Int) - 1 - (i:Int):=by omega
  have q3:l.length - 1 - i < l.length:=by omega
  have hs:(i+1)*8≤70368744177664:=by omega
  have hs2:i+1≤70368744177664:=by omega
  have hr:l.reverse[i]?=some (rI l (l.length - 1 - i)):=by rw [List.getElem?_reverse hi,c4V q3]
  have li:(l.reverse.take i).length=i:=by rw [List.length_take,List.length_reverse];omega
  have ha:n6 i (atL b6 (l.reverse.take i)) (atL b6 [rI l (l.length - 1 - i)])=atL b6 (l.reverse.take (i+1)):=by
   have:=U5 b6 (l.reverse.take i) [rI l (l.length - 1 - i)]
   rw [li] at this
   rw [this,List.take_add_one,hr]
   rfl
  rw [b0P]
  simp (disch:=omega) only [f4,i6,Nat.le_refl,q2,q3,w1,w2,hs,hs2,d6 (c4V q3),b6]
  rw [d2e,ha]
 ·have q1:¬ 0≤(l.length:Int) - 1 - (l.length:Int):=by omega
  rw [b0P]
  simp only [q1,decide_false,cond_false]
  rw [show l.reverse.take l.length=l.reverse from by rw [← List.length_reverse,List.take_length]]
theorem d4i:d8 prog X3 X2:=g8 b2x fun x hx =>
 b9 (φ:=(b3 [])) b5 d9 (kp:=Z3) (n:=x.length+1) func179 (c:=d3 a0T) (by kernel_rfl) (c6Q x hx) (b8 (by kernel_rfl))
end Go.Mach.F
