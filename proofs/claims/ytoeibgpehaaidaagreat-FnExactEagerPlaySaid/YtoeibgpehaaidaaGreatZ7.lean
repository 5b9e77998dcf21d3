/- Lemmas and definitions of the proof (Pb Pc Pd Dg Dh Di Dj Dk Cb Cd Ce Vg Qg Bp Pe Dl Cf). Conditions: none. -/
import Derived.Test.YtoeibgpehaaidaaGreatZ6
set_option linter.all false
namespace Go.Mach.F
open Go Go.Mach Go.Proofs.Tryz Go.IntKind
def spl {α:Type} (l s:List α) (k:Nat):List α:=l.take k ++ (s ++ l.drop (k+s.length))
theorem b6l {α:Type} {l s:List α} {k:Nat} (h:k+s.length≤l.length):(spl l s k).length=l.length:=by
 simp only [spl,List.length_append,List.length_take,List.length_drop]
 omega
theorem a4k {α:Type} {l s:List α} {k:Nat} (h:k+s.length≤l.length) (j:Nat):(spl l s k)[j]?=if j < k then l[j]? else if j < k+s.length then s[j - k]? else l[j]?:=by
 unfold spl
 by_cases h1:j < k
 ·rw [if_pos h1,List.getElem?_append_left (by rw [List.length_take];omega),List.getElem?_take,if_pos h1]
 ·rw [if_neg h1,List.getElem?_append_right (by rw [List.length_take];omega),List.length_take,show min k l.length=k by omega]
  by_cases h2:j < k+s.length
  ·rw [if_pos h2,List.getElem?_append_left (by omega)]
  ·rw [if_neg h2,List.getElem?_append_right (by omega),List.getElem?_drop]
   congr 1
   omega
theorem e9J {α:Type} (l:List α) (k:Nat):spl l [] k=l:=by simp [spl]
theorem e9K {α:Type} {l s:List α} {k i:Nat} {x:α} (h:k+s.length≤l.length) (hx:s[i]?=some x):(spl l (s.take i) k).set (k+i) x=spl l (s.take (i+1)) k:=by
 have hi:=(List.getElem?_eq_some_iff.1 hx).1
 have l0:(s.take i).length=i:=by rw [List.length_take];omega
 have l1:(s.take (i+1)).length=i+1:=by rw [List.length_take];omega
 have h0:k+(s.take i).length≤l.length:=by omega
 have h1:k+(s.take (i+1)).length≤l.length:=by omega
 refine List.ext_getElem? fun j=>?_
 rw [a4k h1,l1]
 by_cases e:j=k+i
 ·subst e
  rw [List.getElem?_set_self (by rw [b6l h0];omega),if_neg (by omega),if_pos (by omega),List.getElem?_take,if_pos (by omega),Nat.add_sub_cancel_left,hx]
 ·rw [List.getElem?_set_ne (Ne.symm e),a4k h0,l0]
  by_cases h2:j < k
  ·rw [if_pos h2,if_pos h2]
  ·rw [if_neg h2,if_neg h2]
   by_cases h3:j < k+i
   ·rw [if_pos h3,if_pos (by omega),List.getElem?_take,List.getElem?_take,if_pos (by omega),if_pos (by omega)]
   ·rw [if_neg h3,if_neg (by omega)]
theorem e5Z (l s:List UInt8) {k:Nat} (h:k+s.length≤l.length):Z8 1 k s.length (fun j _=>(atL f5 s (j - k) 0).plain) (atL f5 l)=atL f5 (spl l s k):=by
 funext j c
 unfold Z8
 rw [V6,i6,V6,← Bool.decide_and,← Bool.decide_and,Bool.cond_decide]
 have hsp:=a4k h j
 by_cases h1:c < 1∧k≤j∧j < k+s.length
 ·obtain ⟨a1,a2,a3⟩:=h1
  obtain rfl:c=0:=by omega
  rw [if_pos ⟨a1,a2,a3⟩]
  rw [if_neg (by omega),if_pos a3,List.getElem?_eq_getElem (show j - k < s.length by omega)] at hsp
  rw [d6 hsp]
  show (atL f5 s (j - k) 0).plain=_
  rw [d6 (List.getElem?_eq_getElem (show j - k < s.length by omega))]
  rfl
 ·rw [if_neg h1]
  by_cases h2:k≤j∧j < k+s.length
  ·have hl:j < l.length:=by omega
   rw [if_neg (by omega),if_pos h2.2,List.getElem?_eq_getElem (show j - k < s.length by omega)] at hsp
   rw [d6 hsp,d6 (List.getElem?_eq_getElem hl)]
   obtain ⟨c,rfl⟩:∃ c',c=c'+1:=⟨c - 1,by omega⟩
   rfl
  ·have:(spl l s k)[j]?=l[j]?:=by
    rw [hsp]
    by_cases h3:j < k
    ·rw [if_pos h3]
    ·rw [if_neg h3,if_neg (by omega)]
   unfold atL
   rw [this]
theorem d2Y {l s:List UInt8} {k:Int} (h0:0≤k) (h1:k+(s.length:Int)≤(l.length:Int)):pua l k s=(spl l s k.toNat,true):=by
 unfold pua spl
 simp only [h0,h1,decide_true,Bool.and_self,cond_true]
theorem b2K {l s:List UInt8} {k:Int} (h:¬ (0≤k∧k+(s.length:Int)≤(l.length:Int))):pua l k s=(l,false):=by
 unfold pua
 rw [← Bool.decide_and,decide_eq_false h]
 rfl
theorem d4n (l:List UInt8) (k:Int) (s:List UInt8) (n:Nat) (h:a1F (l,k,s)):body prog c7f c0c n c3a (X7 (l,k,s))=some ([oT (eB (a9b (l,k,s)).1),oT (.bool (a9b (l,k,s)).2)],[nul,nul,nul]):=by
 have hlm:=lm
 obtain ⟨hl,hs⟩:l.length≤LM∧s.length≤LM:=h
 have w0:i64.wrap ((l.length:Int) - (s.length:Int))=(l.length:Int) - (s.length:Int):=by rw [IntKind.wrap_i64];omega
 unfold X7 a9b
 dsimp only
 rw [d8z]
 have c0:a0B l:=hl
 rw [b4 (d1D c0) (d1E c0)]
 simp only [d8c,f4,i6,Nat.le_refl,w0]
 by_cases a0:(s.length:Int)≤(l.length:Int)
 case neg =>
  rw [b2K (by omega)]
  simp only [a0,decide_false,cond_false]
  rfl
 by_cases a1:0≤k
 case neg =>
  rw [b2K (by omega)]
  simp only [a0,a1,decide_true,decide_false,cond_true,cond_false]
  rfl
 by_cases a2:k≤(l.length:Int) - (s.length:Int)
 case neg =>
  rw [b2K (by omega)]
  simp only [a0,a1,a2,decide_true,decide_false,cond_true,cond_false,Bool.not_false]
  rfl
 have a3:k≤(l.length:Int):=by omega
 have a4:s.length≤l.length - k.toNat:=by omega
 have a5:k.toNat+s.length≤l.length:=by omega
 rw [d2Y a1 (by omega)]
 simp only [f4,a0,a1,a2,a3,a4,a5,decide_true,cond_true,cond_false,Bool.not_true,Bool.and_self,Int.toNat_natCast,Int.le_refl,e5Z l s a5,oT,l7,b6l a5]
 rfl
theorem e6a:d8 prog d2V d2U:=g8 b8a fun x hx =>
 b9 (φ:=c7f) (a9 e1E (a9 d8d b5)) d9 (kp:=c0c) (n:=0) func144 (c:=d3 c3a) (by kernel_rfl) (d4n x.1 x.2.1 x.2.2 (0) hx) (b8 (by kernel_rfl))
theorem d4o (l:List UInt8) (k:Int) (s:List UInt8) (h:a1G (l,k,s)):body prog b5g a3D (s.length+1) a5U (X8 (l,k,s))=some ([oT (eB (a9c (l,k,s)).1),oT (.bool (a9c (l,k,s)).2)],[nul,nul,nul]):=by
 have hlm:=lm
 obtain ⟨hl,hs⟩:l.length≤LM∧s.length≤LM:=h
 have w0:i64.wrap ((l.length:Int) - (s.length:Int))=(l.length:Int) - (s.length:Int):=by rw [IntKind.wrap_i64];omega
 unfold X8 a9c
 dsimp only
 rw [d8A]
 have e1:n6 0 (i4 []) (n7 (atL f5 l))=atL f5 l:=by rw [b5V,b0B]
 have s1:l.length*1≤70368744177664:=by omega
 have s2:l.length≤70368744177664:=by omega
 simp only [f4,i6,Nat.le_refl,s1,s2,e1]
 by_cases a1:0≤k
 case neg =>
  rw [b2K (by omega)]
  simp only [a1,decide_false,cond_false]
  rfl
 by_cases a2:k≤(l.length:Int)
 case neg =>
  rw [b2K (by omega)]
  simp only [a1,a2,decide_true,decide_false,cond_true,cond_false]
  rfl
 have w1:i64.wrap ((l.length:Int) - k)=(l.length:Int) - k:=by rw [IntKind.wrap_i64];omega
 by_cases a3:(s.length:Int)≤(l.length:Int) - k
 case neg =>
  rw [b2K (by omega)]
  simp only [a1,a2,a3,w1,decide_true,decide_false,cond_true,cond_false,Bool.not_false]
  rfl
 have a5:k.toNat+s.length≤l.length:=by omega
 rw [d2Y a1 (by omega)]
 simp only [a1,a2,a3,w1,decide_true,cond_true,cond_false,Bool.not_true]
 have hst:a2D l k s l.length (atL f5 l) 0=(fun i:Nat=>a2D l k s l.length (atL f5 (spl l (s.take i) k.toNat)) (i:Nat)) 0:=by
  simp only [List.take_zero,e9J]
  rfl
 rw [hst,v5 s.length (fun i:Nat=>a2D l k s l.length (atL f5 (spl l (s.take i) k.toNat)) (i:Nat)) (b0I l k s l.length (atL f5 (spl l s k.toNat)) s.length) 0 (fun i K hi=>?_) (fun K=>?_) _ (Nat.le_refl _)]
 ·rw [c5c]
  simp only [f4,i6,Nat.le_refl,oT,l7,b6l a5]
  rfl
 ·have hx:=List.getElem?_eq_getElem hi
  obtain ⟨x,hxe⟩:∃ x,x=s[i]:=⟨_,rfl⟩
  rw [← hxe] at hx
  have l0:(s.take i).length=i:=by rw [List.length_take];omega
  have w2:i64.wrap (k+(i:Int))=k+(i:Int):=by rw [IntKind.wrap_i64];omega
  have w3:(k+(i:Int)).toNat=k.toNat+i:=by omega
  have q1:0≤k+(i:Int):=by omega
  have q2:k.toNat+i < l.length:=by omega
  have hj:k.toNat+i < (spl l (s.take i) k.toNat).length:=by rw [b6l (by omega)];omega
  rw [b6k]
  simp (disch:=omega) only [f4,hi,w2,w3,q1,q2,d6 hx,f5,o3]
  rw [w6 (y:=x) (List.getElem?_eq_getElem hj) rfl (by decide:0 < 1),e9K a5 hx]
 ·rw [b6k]
  simp only [p8,Nat.lt_irrefl,decide_false,cond_false,List.take_length]
theorem e6b:d8 prog d2X d2W:=g8 b8b fun x hx =>
 b9 (φ:=b5g) (a9 c8j b5) d9 (kp:=a3D) (n:=x.2.2.length+1) func122 (c:=d3 a5U) (by kernel_rfl) (d4o x.1 x.2.1 x.2.2 hx) (b8 (by kernel_rfl))
end Go.Mach.F
namespace Go.Mach.F
open Go Go.Mach Go.Proofs.Tryz Go.IntKind
--=set_option maxRecDepth 100000
def c0d (x:Rm) (i:Nat) (b:List UInt8):Rm:={ x with things:=x.things.set i ⟨b⟩ }
def a9d (m:Ml) (r:Rf) (k:Int) (s:List UInt8):Ml × Int:=bif decide ((thg m r).2=0) then (bif (pua (thB m r) k s).2 then (⟨m.c,m.rooms.set (thg m r).1.toNat (c0d (m.rooms.getD (thg m r).1.toNat zRm) r.no.toNat (pua (thB m r) k s).1),m.log⟩,0) else (m,7)) else (m,(thg m r).2)
def N0 (x:Ml × Rf × Int × List UInt8):Prop:=ok_RmS x.1.rooms∧m6 x.1.log∧o9 x.2.2.2
def F7 (x:Ml × Rf × Int × List UInt8):List Arg:=[aR x.1.cs,aR x.2.1.cs,aI x.2.2.1,aT (eB x.2.2.2)]
def a0m (x:Ml × Rf × Int × List UInt8):Ml × Int:=a9d x.1 x.2.1 x.2.2.1 x.2.2.2
noncomputable def b8c:Ent:=ent [] N0 F7 (fun (x:Ml × Int)=>([oR x.1.cs,oT (.int .i64 x.2)],[nul,nul,nul,nul])) a0m
theorem b0k (x y:Ml × Rf × Int × List UInt8) (h:F7 x=F7 y):x=y:=by
 obtain ⟨m1,r1,k1,s1⟩:=x
 obtain ⟨m2,r2,k2,s2⟩:=y
 simp only [F7,List.cons.injEq,and_true,true_and] at h
 obtain ⟨e0,e1,e2,e3⟩:=h
 obtain rfl:=Ml.cs_ext (j6 e0)
 obtain rfl:=Rf.cs_ext (j6 e1)
 obtain rfl:=v9 e2
 obtain rfl:=P1 (K7 e3)
 rfl
theorem c7i {m:Ml} {r:Rf} {k:Int} {s:List UInt8} (h:N0 (m,r,k,s)):dom N0 F7 [(wMl m),(wRf r),(0,false,[C.tr false (T.int i64 k)]),(0,false,[C.tr false (T.arr 1 s.length (atL f5 s))])]=true:=i3 (ea:=F7) (x:=(m,r,k,s)) h
theorem c7j {m:Ml} {r:Rf} {k:Int} {s:List UInt8} (h:N0 (m,r,k,s)):inv N0 F7 [(wMl m),(wRf r),(0,false,[C.tr false (T.int i64 k)]),(0,false,[C.tr false (T.arr 1 s.length (atL f5 s))])]=(m,r,k,s):=g9 b0k (x:=(m,r,k,s)) h
theorem c9p (m:Ml) (r:Rf) (k:Int) (s:List UInt8):a0m (m,r,k,s)=a9d m r k s:=rfl
def b8d:Nat:=88
noncomputable abbrev b0J:Func:=f88
def a9e:List (Nat × List Nat):=[(0,kq [4,6,9,11,17,21,32,50,92,116]),(1,kq [4,6,9,11,17,21,32,50,92,116]),(2,kq [4,6,9,11,17,21,22,24,32,50,92,116]),(3,kq [4,6,9,11,17,21,22,24,32,48,50,92,116]),(4,kq [17,18,21,32,50,92,116]),(5,kq [11,17,21,22,26,28,32,50,92,116]),(6,kq [11,17,21,22,26,32,50,90,92,116]),(7,kq [17,18,21,32,50,92,116]),(8,kq [17,21,32,50,92,116]),(9,kq [17,18,21,32,50,92,116])]
noncomputable abbrev e6c:Sems:=b3 [(P6,P5),(d1T,d1S),(d2V,d2U)]
theorem c5d (m:Ml) (r:Rf) (k:Int) (s:List UInt8) (n:Nat):body prog e6c a9e n b0J [aR m.cs,aR r.cs,aI k,aT (eB s)]=(d7 A9 F9 (Z2) [(wMl m)] fun (r1:Ml)=>gl r1.2.length<|gl r1.3.length<|d7 a2s a1n (b2k) [(wMl m),(wRf r)] fun (r2:Int × Int)=>let q0:=atL Rm.cs r1.2 (0+r2.1.toNat) (9+0);bif r2.2 != 0 then gl r1.2.length<|gl r1.3.length<|gl r1.2.length<|gl r1.3.length<|some ([(oR (Ml.cs r1)),(false,[.tr true (T.int i64 r2.2)])],(nu 4)) else gd (decide (0≤r2.1)&&(r2.1.toNat.blt m.2.length&&true))<|gd ((atL Rm.cs m.2 r2.1.toNat 9).isArr&&(atL Rm.cs m.2 r2.1.toNat 9).wd.beq 1)<|gd (decide (0≤r.3)&&(r.3.toNat.blt (atL Rm.cs m.2 r2.1.toNat 9).ln&&true))<|gd (((atL Rm.cs m.2 r2.1.toNat 9).fn r.3.toNat 0).isArr&&((atL Rm.cs m.2 r2.1.toNat 9).fn r.3.toNat 0).wd.beq 1)<|d7 a1F X7 (a9b) [(0,false,[C.tr false (T.arr 1 ((atL Rm.cs m.2 r2.1.toNat 9).fn r.3.toNat 0).ln ((atL Rm.cs m.2 r2.1.toNat 9).fn r.3.toNat 0).fn)]),(0,false,[C.tr false (T.int i64 k)]),(0,false,[C.tr false (T.arr 1 s.length (atL f5 s))])] fun (r3:List UInt8 × Bool)=>gl r3.1.length<|bif !r3.2 then gl r1.2.length<|gl r1.3.length<|gl r1.2.length<|gl r1.3.length<|some ([(oR (Ml.cs r1)),(false,[.tr true (T.int i64 7)])],(nu 4)) else gd (decide (0≤r2.1)&&(r2.1.toNat.blt r1.2.length&&true))<|gd ((0+r2.1.toNat).blt r1.2.length&&true&&(q0.isArr&&q0.wd.beq 1))<|gd (decide (0≤r.3)&&(r.3.toNat.blt q0.ln&&true))<|gl r3.1.length<|gd ((0+r2.1.toNat).blt r1.2.length&&true&&true&&(((T.arr 11 r1.2.length (eL 11 Rm.cs r1.2).fn).get [0+r2.1.toNat,9+0]).isArr&&Nat.beq 1 ((T.arr 11 r1.2.length (eL 11 Rm.cs r1.2).fn).get [0+r2.1.toNat,9+0]).wd)&&((0+r2.1.toNat).blt r1.2.length&&true&&q0.okAt [0+r.3.toNat,0]))<|gl r1.2.length<|gl r1.3.length<|gl r1.2.length<|gl r1.3.length<|some ([(true,[.tr true (T.int i64 r1.c.1),.tr true (T.int i64 r1.c.2),.tr true (T.int i64 r1.c.3),.tr true (T.int i64 r1.c.4),.tr true (T.int i64 r1.c.5),.tr true (T.int i64 r1.c.6),.tr true (.arr (11) (r1.2.length) (b7 (0+r2.1.toNat) 9 ((atL Rm.cs r1.2 (0+r2.1.toNat) 9).set [0+r.3.toNat,0] (T.arr 1 r3.1.length (atL f5 r3.1))) (eL 11 Rm.cs r1.2).fn)),.tr true (.arr (1) (r1.3.length) ((eL 1 b6 r1.3).fn))]),(false,[.tr true (T.int i64 0)])],(nu 4))):=by kernel_rfl
def N8 (x:Ml × Rf × Int × List UInt8):Prop:=ok_RmS x.1.rooms∧m6 x.1.log∧o9 x.2.2.2
def F8 (x:Ml × Rf × Int × List UInt8):List Arg:=[aR x.1.cs,aR x.2.1.cs,aI x.2.2.1,aT (eB x.2.2.2)]
def a0n (x:Ml × Rf × Int × List UInt8):Ml × Int:=a9d x.1 x.2.1 x.2.2.1 x.2.2.2
noncomputable def b8e:Ent:=ent [] N8 F8 (fun (x:Ml × Int)=>([oR x.1.cs,oT (.int .i64 x.2)],[nul,nul,nul,nul])) a0n
theorem b0l (x y:Ml × Rf × Int × List UInt8) (h:F8 x=F8 y):x=y:=by
 obtain ⟨m1,r1,k1,s1⟩:=x
 obtain ⟨m2,r2,k2,s2⟩:=y
 simp only [F8,List.cons.injEq,and_true,true_and] at h
 obtain ⟨e0,e1,e2,e3⟩:=h
 obtain rfl:=Ml.cs_ext (j6 e0)
 obtain rfl:=Rf.cs_ext (j6 e1)
 obtain rfl:=v9 e2
 obtain rfl:=P1 (K7 e3)
 rfl
theorem c7k {m:Ml} {r:Rf} {k:Int} {s:List UInt8} (h:N8 (m,r,k,s)):dom N8 F8 [(wMl m),(wRf r),(0,false,[C.tr false (T.int i64 k)]),(0,false,[C.tr false (T.arr 1 s.length (atL f5 s))])]=true:=i3 (ea:=F8) (x:=(m,r,k,s)) h
theorem c7l {m:Ml} {r:Rf} {k:Int} {s:List UInt8} (h:N8 (m,r,k,s)):inv N8 F8 [(wMl m),(wRf r),(0,false,[C.tr false (T.int i64 k)]),(0,false,[C.tr false (T.arr 1 s.length (atL f5 s))])]=(m,r,k,s):=g9 b0l (x:=(m,r,k,s)) h
theorem c9q (m:Ml) (r:Rf) (k:Int) (s:List UInt8):a0n (m,r,k,s)=a9d m r k s:=rfl
def b8f:Nat:=74
noncomputable abbrev b0K:Func:=f74
def a9f:List (Nat × List Nat):=[(0,kq [4,6,9,11,17,21,32,50,92,116]),(1,kq [4,6,9,11,17,21,32,50,92,116]),(2,kq [4,6,9,11,17,21,22,24,32,50,92,116]),(3,kq [4,6,9,11,17,21,22,24,32,48,50,92,116]),(4,kq [17,18,21,32,50,92,116]),(5,kq [11,17,21,22,26,28,32,50,92,116]),(6,kq [11,17,21,22,26,32,50,90,92,116]),(7,kq [17,18,21,32,50,92,116]),(8,kq [17,21,32,50,92,116]),(9,kq [17,18,21,32,50,92,116])]
noncomputable abbrev e6d:Sems:=b3 [(C8,C7),(d1W,d1V),(d2X,d2W)]
theorem c5e (m:Ml) (r:Rf) (k:Int) (s:List UInt8) (n:Nat):body prog e6d a9f n b0K [aR m.cs,aR r.cs,aI k,aT (eB s)]=(d7 p9 w5 (E2) [(wMl m)] fun (r1:Ml)=>gl r1.2.length<|gl r1.3.length<|d7 a2t a1o (b2l) [(wMl m),(wRf r)] fun (r2:Int × Int)=>let q0:=atL Rm.cs r1.2 (0+r2.1.toNat) (9+0);bif r2.2 != 0 then gl r1.2.length<|gl r1.3.length<|gl r1.2.length<|gl r1.3.length<|some ([(oR (Ml.cs r1)),(false,[.tr true (T.int i64 r2.2)])],(nu 4)) else gd (decide (0≤r2.1)&&(r2.1.toNat.blt m.2.length&&true))<|gd ((atL Rm.cs m.2 r2.1.toNat 9).isArr&&(atL Rm.cs m.2 r2.1.toNat 9).wd.beq 1)<|gd (decide (0≤r.3)&&(r.3.toNat.blt (atL Rm.cs m.2 r2.1.toNat 9).ln&&true))<|gd (((atL Rm.cs m.2 r2.1.toNat 9).fn r.3.toNat 0).isArr&&((atL Rm.cs m.2 r2.1.toNat 9).fn r.3.toNat 0).wd.beq 1)<|d7 a1G X8 (a9c) [(0,false,[C.tr false (T.arr 1 ((atL Rm.cs m.2 r2.1.toNat 9).fn r.3.toNat 0).ln ((atL Rm.cs m.2 r2.1.toNat 9).fn r.3.toNat 0).fn)]),(0,false,[C.tr false (T.int i64 k)]),(0,false,[C.tr false (T.arr 1 s.length (atL f5 s))])] fun (r3:List UInt8 × Bool)=>gl r3.1.length<|bif !r3.2 then gl r1.2.length<|gl r1.3.length<|gl r1.2.length<|gl r1.3.length<|some ([(oR (Ml.cs r1)),(false,[.tr true (T.int i64 7)])],(nu 4)) else gd (decide (0≤r2.1)&&(r2.1.toNat.blt r1.2.length&&true))<|gd ((0+r2.1.toNat).blt r1.2.length&&true&&(q0.isArr&&q0.wd.beq 1))<|gl r3.1.length<|gd (decide (0≤r.3)&&(r.3.toNat.blt q0.ln&&true))<|gl r3.1.length<|gd ((0+r2.1.toNat).blt r1.2.length&&true&&true&&(((T.arr 11 r1.2.length (eL 11 Rm.cs r1.2).fn).get [0+r2.1.toNat,9+0]).isArr&&Nat.beq 1 ((T.arr 11 r1.2.length (eL 11 Rm.cs r1.2).fn).get [0+r2.1.toNat,9+0]).wd)&&((0+r2.1.toNat).blt r1.2.length&&true&&q0.okAt [0+r.3.toNat,0]))<|gl r1.2.length<|gl r1.3.length<|gl r1.2.length<|gl r1.3.length<|some ([(true,[.tr true (T.int i64 r1.c.1),.tr true (T.int i64 r1.c.2),.tr true (T.int i64 r1.c.3),.tr true (T.int i64 r1.c.4),.tr true (T.int i64 r1.c.5),.tr true (T.int i64 r1.c.6),.tr true (.arr (11) (r1.2.length) (b7 (0+r2.1.toNat) 9 ((atL Rm.cs r1.2 (0+r2.1.toNat) 9).set [0+r.3.toNat,0] (T.arr 1 r3.1.length (atL f5 r3.1))) (eL 11 Rm.cs r1.2).fn)),.tr true (.arr (1) (r1.3.length) ((eL 1 b6 r1.3).fn))]),(false,[.tr true (T.int i64 0)])],(nu 4))):=by kernel_rfl
end Go.Mach.F
namespace Go.Mach.F
open Go Go.Mach Go.Proofs.Tryz
theorem c7m (l:List UInt8) (k:Int) (s:List UInt8):(pua l k s).1.length=l.length:=by
 by_cases h:0≤k∧k+(s.length:Int)≤(l.length:Int)
 ·rw [d2Y h.1 h.2]
  exact b6l (by omega)
 ·rw [b2K h]
theorem c3b (m:Ml) (r:Rf) (k:Int) (s:List UInt8) (n:Nat) (h0:N0 (m,r,k,s)):body prog e6c a9e n b0J (F7 (m,r,k,s))=some ([oR (a0m (m,r,k,s)).1.cs,oT (.int .i64 (a0m (m,r,k,s)).2)],[nul,nul,nul,nul]):=by
 have hlm:=lm
 obtain ⟨⟨h1,h2⟩,h3⟩:(ok_RmS m.rooms∧m6 m.log)∧o9 s:=⟨⟨h0.1,h0.2.1⟩,h0.2.2⟩
 have hl:m.rooms.length≤LM:=h1.1
 have c0:A9 m:=⟨h1,h2⟩
 have c1:a2s (m,r):=hl
 unfold F7 a0m a9d
 dsimp only
 rw [c5d]
 try simp only [l7,Ml.cs,Rf.cs]
 rw [b4 (a3s c0) (a3t c0)]
 simp only [a5G,f4,i6,Nat.le_refl]
 rw [b4 (d5L c1) (d5M c1)]
 simp only [e1u,w7,A1]
 by_cases e:(thg m r).2=0
 case neg =>
  simp only [e,decide_false,Bool.not_false,cond_true,cond_false]
  rfl
 have hk:=c0b e
 have hx:=A2 hk.1.2
 have ht:=a7V hk.2.2
 have hy:=h1.2 _ (List.mem_of_getElem? hx)
 have c2:a1F (thB m r,k,s):=⟨hy.2.1.2 _ (List.mem_of_getElem? ht),h3⟩
 have e0:=hk.1.1
 have e1:=hk.1.2
 have e2:=hk.2.1
 have e3:=hk.2.2
 obtain ⟨x,hxe⟩:∃ x,x=m.rooms.getD (thg m r).1.toNat zRm:=⟨_,rfl⟩
 obtain ⟨u,hse⟩:∃ u,u=x.things.getD r.no.toNat ⟨[]⟩:=⟨_,rfl⟩
 have hb:thB m r=u.b:=by rw [hse,hxe];rfl
 rw [← hxe] at hx ht e3 ⊢
 rw [← hse] at ht
 rw [hb] at c2 ⊢
 simp only [f4,e,e0,e1,e2,e3,Nat.add_zero,Bool.not_true,cond_false,d6 hx,Rm.cs,d6 ht,Sf.cs,l7]
 rw [b4 (e2D c2) (e2E c2)]
 have hpl:=c7m u.b k s
 simp only [e5X,f4,i6,Nat.le_refl,T.get,T.okAt,T.set,e3]
 cases hpu:(pua u.b k s).2 with
 | false =>
  simp only [Bool.not_false,cond_true,cond_false]
  rfl
 | true =>
  simp only [Bool.not_true,cond_true,cond_false]
  have hs1:b7 r.no.toNat 0 (T.arr 1 (pua u.b k s).1.length (atL f5 (pua u.b k s).1)) (atL Sf.cs x.things)=atL Sf.cs (x.things.set r.no.toNat ⟨(pua u.b k s).1⟩):=w6 ht rfl (by decide:0 < 1)
  rw [hs1,w6 (y:=c0d x r.no.toNat (pua u.b k s).1) hx (by simp only [Rm.cs,c0d,l7,List.length_set];rfl) (by decide:9 < 11)]
  simp only [oR,Ml.cs,l7,List.length_set]
  rfl
theorem c9r:d8 prog b8d b8c:=g8 b0k fun x hx =>
 b9 (φ:=e6c) (a9 a5J (a9 e1x (a9 e6a b5))) d9 (kp:=a9e) (n:=0) func88 (c:=d3 b0J) (by kernel_rfl) (c3b x.1 x.2.1 x.2.2.1 x.2.2.2 (0) hx) (b8 (by kernel_rfl))
theorem c3c (m:Ml) (r:Rf) (k:Int) (s:List UInt8) (n:Nat) (h0:N8 (m,r,k,s)):body prog e6d a9f n b0K (F8 (m,r,k,s))=some ([oR (a0n (m,r,k,s)).1.cs,oT (.int .i64 (a0n (m,r,k,s)).2)],[nul,nul,nul,nul]):=by
 have hlm:=lm
 obtain ⟨⟨h1,h2⟩,h3⟩:(ok_RmS m.rooms∧m6 m.log)∧o9 s:=⟨⟨h0.1,h0.2.1⟩,h0.2.2⟩
 have hl:m.rooms.length≤LM:=h1.1
 have c0:p9 m:=⟨h1,h2⟩
 have c1:a2t (m,r):=hl
 unfold F8 a0n a9d
 dsimp only
 rw [c5e]
 try simp only [l7,Ml.cs,Rf.cs]
 rw [b4 (W7 c0) (W8 c0)]
 simp only [a0Q,f4,i6,Nat.le_refl]
 rw [b4 (d5N c1) (d5O c1)]
 simp only [e1v,w7,A1]
 by_cases e:(thg m r).2=0
 case neg =>
  simp only [e,decide_false,Bool.not_false,cond_true,cond_false]
  rfl
 have hk:=c0b e
 have hx:=A2 hk.1.2
 have ht:=a7V hk.2.2
 have hy:=h1.2 _ (List.mem_of_getElem? hx)
 have c2:a1G (thB m r,k,s):=⟨hy.2.1.2 _ (List.mem_of_getElem? ht),h3⟩
 have e0:=hk.1.1
 have e1:=hk.1.2
 have e2:=hk.2.1
 have e3:=hk.2.2
 obtain ⟨x,hxe⟩:∃ x,x=m.rooms.getD (thg m r).1.toNat zRm:=⟨_,rfl⟩
 obtain ⟨u,hse⟩:∃ u,u=x.things.getD r.no.toNat ⟨[]⟩:=⟨_,rfl⟩
 have hb:thB m r=u.b:=by rw [hse,hxe];rfl
 rw [← hxe] at hx ht e3 ⊢
 rw [← hse] at ht
 rw [hb] at c2 ⊢
 simp only [f4,e,e0,e1,e2,e3,Nat.add_zero,Bool.not_true,cond_false,d6 hx,Rm.cs,d6 ht,Sf.cs,l7]
 rw [b4 (e2F c2) (e2G c2)]
 have hpl:=c7m u.b k s
 simp only [e5Y,f4,i6,Nat.le_refl,T.get,T.okAt,T.set,e3]
 cases hpu:(pua u.b k s).2 with
 | false =>
  simp only [Bool.not_false,cond_true,cond_false]
  rfl
 | true =>
  simp only [Bool.not_true,cond_true,cond_false]
  have hs1:b7 r.no.toNat 0 (T.arr 1 (pua u.b k s).1.length (atL f5 (pua u.b k s).1)) (atL Sf.cs x.things)=atL Sf.cs (x.things.set r.no.toNat ⟨(pua u.b k s).1⟩):=w6 ht rfl (by decide:0 < 1)
  rw [hs1,w6 (y:=c0d x r.no.toNat (pua u.b k s).1) hx (by simp only [Rm.cs,c0d,l7,List.length_set];rfl) (by decide:9 < 11)]
  simp only [oR,Ml.cs,l7,List.length_set]
  rfl
theorem c9s:d8 prog b8f b8e:=g8 b0l fun x hx =>
 b9 (φ:=e6d) (a9 a5K (a9 e1z (a9 e6b b5))) d9 (kp:=a9f) (n:=0) func74 (c:=d3 b0K) (by kernel_rfl) (c3c x.1 x.2.1 x.2.2.1 x.2.2.2 (0) hx) (b8 (by kernel_rfl))
end Go.Mach.F
namespace Go.Mach.F
open Go Go.Mach Go.Proofs.Tryz Go.IntKind
--=set_option maxRecDepth 100000
/-- What EagerGive's test captures. -/
structure Dc where
 met:List Hd
 whole:Bool
 h:Hd
 deriving Inhabited
def aDc (i:Nat) (x:Dc):Arg:=(0,false,[.fn i [Pt.pim 1 (v3 [eL 2 Hd.cs x.met]),Pt.pim 1 (v3 [.bool x.whole]),Pt.pim 2 (v3 x.h.cs)]])
theorem d6r {i:Nat} {x y:Dc} (h:aDc i x=aDc i y):x=y:=by
 obtain ⟨m1,w1,h1⟩:=x
 obtain ⟨m2,w2,h2⟩:=y
 simp only [aDc,Prod.mk.injEq,true_and,List.cons.injEq,and_true,C.fn.injEq,Pt.pim.injEq] at h
 obtain ⟨e0,e1,e2⟩:=h
 have f0:=congrFun e0 0
 have f1:=congrFun e1 0
 have f2:=congrFun e2 0
 have f3:=congrFun e2 1
 obtain rfl:=m8 Hd.cs_inj f0
 cases f1
 rcases h1 with ⟨_,_⟩
 rcases h2 with ⟨_,_⟩
 cases f2
 cases f3
 rfl
/-- What goes. -/
def gvK (c:Dc) (r:Rm):Bool:=a1q c.met r.h&&(c.whole || !decide (r.h=c.h))
def ixP {α:Type} (p:α→Bool) (l:List α):Int:=match (List.range l.length).find? (fun i=>(l[i]?.map p).getD false) with | some i=>(i:Int) | none=>-1
def U3:Nat:=148
noncomputable abbrev d6s:Func:=f148
def e6e:List (Nat × List Nat):=[(0,kq [2,4,6,9,22,24,26,28,30,32,34]),(1,[20])]
noncomputable def a2E:Ent:=inl [0,0,0,0] prog (b3 [(a7R,a7S)]) e6e 0 d6s
theorem d6t:d8 prog U3 a2E:=p6 (a9 e2d b5) d9 (c:=d3 d6s) func148 (by kernel_rfl) (b8 (by kernel_rfl))
def b0m (x:List Rm × Dc):Prop:=x.1.length≤LM∧x.2.met.length≤LM
def a5i (x:List Rm × Dc):List Arg:=[aT (eL 11 Rm.cs x.1),aDc U3 x.2]
def c5f (x:List Rm × Dc):Int:=ixP (gvK x.2) x.1
noncomputable def e7o:Ent:=ent [] b0m a5i (erI 2) c5f
theorem c5g (x y:List Rm × Dc) (h:a5i x=a5i y):x=y:=by
 obtain ⟨l1,c1⟩:=x
 obtain ⟨l2,c2⟩:=y
 simp only [a5i,List.cons.injEq,and_true,true_and] at h
 obtain ⟨e0,e1⟩:=h
 obtain rfl:=m8 Rm.cs_inj (K7 e0)
 obtain rfl:=d6r e1
 rfl
theorem f2h {l:List Rm} {c:Dc} (h:b0m (l,c)):dom b0m a5i [(0,false,[C.tr false (T.arr 11 l.length (atL Rm.cs l))]),(0,false,[C.fn 148 [Pt.pim 1 (v3 [T.arr 2 c.met.length (atL Hd.cs c.met)]),Pt.pim 1 (v3 [T.bool c.whole]),Pt.pim 2 (v3 [T.int i64 c.h.slot,T.int i64 c.h.gen])]])]=true:=i3 (ea:=a5i) (x:=(l,c)) h
theorem f2i {l:List Rm} {c:Dc} (h:b0m (l,c)):inv b0m a5i [(0,false,[C.tr false (T.arr 11 l.length (atL Rm.cs l))]),(0,false,[C.fn 148 [Pt.pim 1 (v3 [T.arr 2 c.met.length (atL Hd.cs c.met)]),Pt.pim 1 (v3 [T.bool c.whole]),Pt.pim 2 (v3 [T.int i64 c.h.slot,T.int i64 c.h.gen])]])]=(l,c):=g9 c5g (x:=(l,c)) h
theorem f2W (l:List Rm) (c:Dc):c5f (l,c)=ixP (gvK c) l:=rfl
def e7p:Nat:=134
noncomputable abbrev b4a:Func:=f134
def b0n:List (Nat × List Nat):=[(0,[0,4]),(1,[0,4,28,32]),(2,[0,4,28,32,36]),(3,[0,4,20,28,32]),(4,[0,4,20,28,32,64]),(5,[16]),(6,[0,4,28,32]),(7,[16])]
def d2Z:List Nat:=[0,0]
def a5V (l:List Rm) (c:Dc) (x32:Int):St:=[(0,⟨z0,[(false,[.tr false (eL 11 Rm.cs l)])]⟩),(4,⟨z0,[(false,[(C.fn 148 [Pt.pim 1 (v3 [eL 2 Hd.cs c.1]),Pt.pim 1 (v3 [T.bool c.2]),Pt.pim 2 (v3 [T.int i64 c.h.1,T.int i64 c.h.2])])])]⟩),vi 7 (↑l.length:Int),vi 8 x32]
def b1e (l:List Rm) (c:Dc) (x32:Int):St:=[vi 4 x32]
def b7o (l:List Rm) (c:Dc) (x32:Int):St:=[(0,⟨z0,[(false,[.tr false (eL 11 Rm.cs l)])]⟩),(4,⟨z0,[(false,[(C.fn 148 [Pt.pim 1 (v3 [eL 2 Hd.cs c.1]),Pt.pim 1 (v3 [T.bool c.2]),Pt.pim 2 (v3 [T.int i64 c.h.1,T.int i64 c.h.2])])])]⟩),vi 7 (↑l.length:Int),vi 8 x32,ve 36]
theorem c1X (l:List Rm) (c:Dc) (x32:Int) (n:Nat) (K:Ex→St→Res):i8 prog (b3 [(U3,a2E)]) b0n b4a [1,0,1,0] n (a5V l c x32) K=(bif decide (x32 < (↑l.length:Int)) then gd (decide (0≤x32)&&(x32.toNat.blt l.length&&true))<|gd (T.isI i64 (atL Rm.cs l x32.toNat 0)&&T.isI i64 (atL Rm.cs l x32.toNat 1)&&T.isI i64 (atL Rm.cs l x32.toNat 2)&&T.isI i64 (atL Rm.cs l x32.toNat 3)&&((atL Rm.cs l x32.toNat 4).isArr&&(atL Rm.cs l x32.toNat 4).wd.beq 2)&&T.isI i64 (atL Rm.cs l x32.toNat 5)&&T.isI i64 (atL Rm.cs l x32.toNat 6)&&(atL Rm.cs l x32.toNat 7).isB&&T.isI i64 (atL Rm.cs l x32.toNat 8)&&((atL Rm.cs l x32.toNat 9).isArr&&(atL Rm.cs l x32.toNat 9).wd.beq 1)&&((atL Rm.cs l x32.toNat 10).isArr&&(atL Rm.cs l x32.toNat 10).wd.beq 1))<|d7 a0i a0j (a5f) [(0,false,[C.tr false (T.arr 2 c.1.length (atL Hd.cs c.1))]),(0,true,[C.tr false (T.int i64 (atL Rm.cs l x32.toNat 0).toI),C.tr false (T.int i64 (atL Rm.cs l x32.toNat 1).toI)])] fun (r1:Int)=>bif decide (0≤r1) then bif (T.bool c.2).toB then K .ret (b1e l c x32) else bif !bif (atL Rm.cs l x32.toNat 0).toI==(T.int i64 c.h.1).toI then bif (atL Rm.cs l x32.toNat 1).toI==(T.int i64 c.h.2).toI then true else false else false then K .ret (b1e l c x32) else K .normal (a5V l c (i64.wrap (x32+1))) else K .normal (a5V l c (i64.wrap (x32+1))) else K (.exit 0) (b7o l c x32)):=by kernel_rfl
theorem d3a (l:List Rm) (c:Dc) (x32:Int) (n:Nat):d5 prog (b3 [(U3,a2E)]) b0n b4a d2Z [1,0,1,0] [] n .ret (b1e l c x32)=(some ([(false,[.tr true (T.int i64 x32)])],(nu 2))):=by kernel_rfl
theorem d3b (l:List Rm) (c:Dc) (x32:Int) (n:Nat):d5 prog (b3 [(U3,a2E)]) b0n b4a d2Z [1,0,1,0] [] n (.exit 0) (b7o l c x32)=(some ([(false,[.tr true (T.int i64 (-1))])],(nu 2))):=by kernel_rfl
theorem e9L (l:List Rm) (c:Dc) (n:Nat):body prog (b3 [(U3,a2E)]) b0n n b4a [aT (eL 11 Rm.cs l),aDc U3 c]=(j5 prog (b3 [(U3,a2E)]) b0n b4a [1,0,1,0] n n (a5V l c (0)) (d5 prog (b3 [(U3,a2E)]) b0n b4a d2Z [1,0,1,0] [] n)):=by kernel_rfl
def a7a (x:List Rm × Dc):Prop:=x.1.length≤LM∧x.2.met.length≤LM
def a2F (x:List Rm × Dc):List Arg:=[vT (eL 11 Rm.cs x.1),aDc U3 x.2]
def a5j (x:List Rm × Dc):List Rm:=x.1.filter (fun y=>!gvK x.2 y)
noncomputable def b0o:Ent:=ent [3] a7a a2F (fun l=>([oT (eL 11 Rm.cs l)],[nul,nul])) a5j
theorem c1Y (x y:List Rm × Dc) (h:a2F x=a2F y):x=y:=by
 obtain ⟨l1,c1⟩:=x
 obtain ⟨l2,c2⟩:=y
 simp only [a2F,List.cons.injEq,and_true,true_and] at h
 obtain ⟨e0,e1⟩:=h
 obtain rfl:=m8 Rm.cs_inj (a5b e0)
 obtain rfl:=d6r e1
 rfl
theorem e9M {l:List Rm} {c:Dc} (h:a7a (l,c)):dom a7a a2F [(3,false,[C.tr true (T.arr 11 l.length (atL Rm.cs l))]),(0,false,[C.fn 148 [Pt.pim 1 (v3 [T.arr 2 c.met.length (atL Hd.cs c.met)]),Pt.pim 1 (v3 [T.bool c.whole]),Pt.pim 2 (v3 [T.int i64 c.h.slot,T.int i64 c.h.gen])]])]=true:=i3 (ea:=a2F) (x:=(l,c)) h
theorem e9N {l:List Rm} {c:Dc} (h:a7a (l,c)):inv a7a a2F [(3,false,[C.tr true (T.arr 11 l.length (atL Rm.cs l))]),(0,false,[C.fn 148 [Pt.pim 1 (v3 [T.arr 2 c.met.length (atL Hd.cs c.met)]),Pt.pim 1 (v3 [T.bool c.whole]),Pt.pim 2 (v3 [T.int i64 c.h.slot,T.int i64 c.h.gen])]])]=(l,c):=g9 c1Y (x:=(l,c)) h
theorem f2j (l:List Rm) (c:Dc):a5j (l,c)=l.filter (fun y=>!gvK c y):=rfl
def b0p:Nat:=147
noncomputable abbrev b2L:Func:=f147
def a9g:List (Nat × List Nat):=[(0,[0,4,2]),(1,[0,4,20,2]),(2,[0,4,20,48,2]),(3,[16,2]),(4,[0,4,20,24,2]),(5,[0,4,20,24,76,2]),(6,[0,4,20,24,2]),(7,[0,4,20,24,28,29,88,92,96,100,2]),(8,[0,4,20,24,28,29,88,92,96,100,116,2]),(9,[0,4,20,24,2]),(10,[0,4,20,24,2]),(11,[0,20,2]),(12,[16,2])]
def d6u:List Nat:=[3,0]
def a0H (l:List Rm) (c:Dc) (nx0:Nat) (fx0:Nat→Nat→T) (x20:Int) (x24:Int):St:=[va 0 (11) (nx0) (fx0),(4,⟨z0,[(false,[(C.fn 148 [Pt.pim 1 (v3 [eL 2 Hd.cs c.1]),Pt.pim 1 (v3 [T.bool c.2]),Pt.pim 2 (v3 [T.int i64 c.h.1,T.int i64 c.h.2])])])]⟩),vi 5 x20,vi 6 x24]
def b5h (l:List Rm) (c:Dc) (nx0:Nat) (fx0:Nat→Nat→T) (x20:Int) (x24:Int):St:=[va 0 (11) (nx0) (fx0),(4,⟨z0,[(false,[(C.fn 148 [Pt.pim 1 (v3 [eL 2 Hd.cs c.1]),Pt.pim 1 (v3 [T.bool c.2]),Pt.pim 2 (v3 [T.int i64 c.h.1,T.int i64 c.h.2])])])]⟩),vi 5 x20,vi 6 x24,ve 76]
noncomputable abbrev c3d:Sems:=b3 [(e7p,e7o),(U3,a2E)]
theorem c0e (l:List Rm) (c:Dc) (nx0:Nat) (fx0:Nat→Nat→T) (x20:Int) (x24:Int) (n:Nat) (K:Ex→St→Res):i8 prog c3d a9g b2L [1,1,1,0,1,0] n (a0H l c nx0 fx0 x20 x24) K=(let q0:=b7 (0+x24.toNat) 4 T.hole fx0;let q1:=b7 (0+x24.toNat) 9 T.hole q0;let q2:=b7 (0+x24.toNat) 10 T.hole q1;let q3:=b7 (0+x20.toNat) 0 (T.int i64 (fx0 (0+x24.toNat) 0).toI) q2;let q4:=b7 (0+x20.toNat) 1 (T.int i64 (fx0 (0+x24.toNat) 1).toI) q3;let q5:=b7 (0+x20.toNat) 2 (T.int i64 (fx0 (0+x24.toNat) 2).toI) q4;let q6:=b7 (0+x20.toNat) 3 (T.int i64 (fx0 (0+x24.toNat) 3).toI) q5;let q7:=T.arr 1 (fx0 (0+x24.toNat) 9).ln ((T.arr 11 nx0 q0).get [0+x24.toNat,9]).fn;let q8:=T.arr 2 (fx0 (0+x24.toNat) 4).ln ((T.arr 11 nx0 fx0).get [0+x24.toNat,4]).fn;let q9:=T.arr 1 (fx0 (0+x24.toNat) 10).ln ((T.arr 11 nx0 q1).get [0+x24.toNat,10]).fn;let q10:=b7 (0+x20.toNat) (4+1) (T.int i64 (fx0 (0+x24.toNat) 5).toI) (b7 (0+x20.toNat) 4 q8 q6);let q11:=b7 (0+x20.toNat) (4+1+1) (T.int i64 (fx0 (0+x24.toNat) 6).toI) q10;let q12:=b7 (0+x20.toNat) (4+1+1+1) (T.bool (fx0 (0+x24.toNat) 7).toB) q11;let q13:=b7 (0+x20.toNat) (4+1+1+1+1) (T.int i64 (fx0 (0+x24.toNat) 8).toI) q12;let q14:=b7 (0+x20.toNat) (4+1+1+1+1+1+1) q9 (b7 (0+x20.toNat) (4+1+1+1+1+1) q7 q13);bif decide (x24 < (↑nx0:Int)) then gd (decide (0≤x24)&&(x24.toNat.blt nx0&&true))<|gd ((0+x24.toNat).blt nx0&&true&&(T.isI i64 (fx0 (0+x24.toNat) 0)&&T.isI i64 (fx0 (0+x24.toNat) 1)&&T.isI i64 (fx0 (0+x24.toNat) 2)&&T.isI i64 (fx0 (0+x24.toNat) 3)&&((fx0 (0+x24.toNat) 4).isArr&&(fx0 (0+x24.toNat) 4).wd.beq 2)&&T.isI i64 (fx0 (0+x24.toNat) 5)&&T.isI i64 (fx0 (0+x24.toNat) 6)&&(fx0 (0+x24.toNat) 7).isB&&T.isI i64 (fx0 (0+x24.toNat) 8)&&((fx0 (0+x24.toNat) 9).isArr&&(fx0 (0+x24.toNat) 9).wd.beq 1)&&((fx0 (0+x24.toNat) 10).isArr&&(fx0 (0+x24.toNat) 10).wd.beq 1)))<|gd ((0+x24.toNat).blt nx0&&true&&true&&((T.arr 11 nx0 fx0).get [0+x24.toNat,4]).isArr)<|gd ((fx0 (0+x24.toNat) 4).ln.ble ((T.arr 11 nx0 fx0).get [0+x24.toNat,4]).ln&&Nat.beq 2 ((T.arr 11 nx0 fx0).get [0+x24.toNat,4]).wd)<|gd ((0+x24.toNat).blt nx0&&true&&true&&((T.arr 11 nx0 q0).get [0+x24.toNat,9]).isArr)<|gd ((fx0 (0+x24.toNat) 9).ln.ble ((T.arr 11 nx0 q0).get [0+x24.toNat,9]).ln&&Nat.beq 1 ((T.arr 11 nx0 q0).get [0+x24.toNat,9]).wd)<|gd ((0+x24.toNat).blt nx0&&true&&true&&((T.arr 11 nx0 q1).get [0+x24.toNat,10]).isArr)<|gd ((fx0 (0+x24.toNat) 10).ln.ble ((T.arr 11 nx0 q1).get [0+x24.toNat,10]).ln&&Nat.beq 1 ((T.arr 11 nx0 q1).get [0+x24.toNat,10]).wd)<|gd ((0+(fx0 (0+x24.toNat) 4).ln).ble (fx0 (0+x24.toNat) 4).ln)<|gd ((0+(fx0 (0+x24.toNat) 9).ln).ble (fx0 (0+x24.toNat) 9).ln)<|gd ((0+(fx0 (0+x24.toNat) 10).ln).ble (fx0 (0+x24.toNat) 10).ln)<|d7 a0i a0j (a5f) [(0,false,[C.tr false (T.arr 2 c.1.length (atL Hd.cs c.1))]),(0,true,[C.tr false (T.int i64 (fx0 (0+x24.toNat) 0).toI),C.tr false (T.int i64 (fx0 (0+x24.toNat) 1).toI)])] fun (r2:Int)=>bif decide (0≤r2) then bif (T.bool c.2).toB then K .normal (a0H l c (nx0) q2 (x20) (i64.wrap (x24+1))) else bif !!bif (fx0 (0+x24.toNat) 0).toI==(T.int i64 c.h.1).toI then bif (fx0 (0+x24.toNat) 1).toI==(T.int i64 c.h.2).toI then true else false else false then gd (decide (0≤x20)&&(x20.toNat.blt nx0&&true))<|gd ((fx0 (0+x24.toNat) 4).ln.ble (fx0 (0+x24.toNat) 4).ln&&true)<|gd ((fx0 (0+x24.toNat) 9).ln.ble (fx0 (0+x24.toNat) 9).ln&&true)<|gd ((fx0 (0+x24.toNat) 10).ln.ble (fx0 (0+x24.toNat) 10).ln&&true)<|gd ((0+x20.toNat).blt nx0&&true&&true)<|gd ((0+x20.toNat).blt nx0&&true&&true)<|gd ((0+x20.toNat).blt nx0&&true&&true)<|gd ((0+x20.toNat).blt nx0&&true&&true)<|gd ((0+x20.toNat).blt nx0&&true&&true)<|gd ((0+x20.toNat).blt nx0&&true&&true)<|gd ((0+x20.toNat).blt nx0&&true&&true)<|gd ((0+x20.toNat).blt nx0&&true&&true)<|gd ((0+x20.toNat).blt nx0&&true&&true)<|gd ((0+x20.toNat).blt nx0&&true&&true)<|gd ((0+x20.toNat).blt nx0&&true&&true)<|K .normal (a0H l c (nx0) q14 (i64.wrap (x20+1)) (i64.wrap (x24+1))) else K .normal (a0H l c (nx0) q2 (x20) (i64.wrap (x24+1))) else gd (decide (0≤x20)&&(x20.toNat.blt nx0&&true))<|gd ((fx0 (0+x24.toNat) 4).ln.ble (fx0 (0+x24.toNat) 4).ln&&true)<|gd ((fx0 (0+x24.toNat) 9).ln.ble (fx0 (0+x24.toNat) 9).ln&&true)<|gd ((fx0 (0+x24.toNat) 10).ln.ble (fx0 (0+x24.toNat) 10).ln&&true)<|gd ((0+x20.toNat).blt nx0&&true&&true)<|gd ((0+x20.toNat).blt nx0&&true&&true)<|gd ((0+x20.toNat).blt nx0&&true&&true)<|gd ((0+x20.toNat).blt nx0&&true&&true)<|gd ((0+x20.toNat).blt nx0&&true&&true)<|gd ((0+x20.toNat).blt nx0&&true&&true)<|gd ((0+x20.toNat).blt nx0&&true&&true)<|gd ((0+x20.toNat).blt nx0&&true&&true)<|gd ((0+x20.toNat).blt nx0&&true&&true)<|gd ((0+x20.toNat).blt nx0&&true&&true)<|gd ((0+x20.toNat).blt nx0&&true&&true)<|K .normal (a0H l c (nx0) q14 (i64.wrap (x20+1)) (i64.wrap (x24+1))) else K (.exit 0) (b5h l c nx0 fx0 x20 x24)):=by kernel_rfl
theorem c9t (l:List Rm) (c:Dc) (nx0:Nat) (fx0:Nat→Nat→T) (x20:Int) (x24:Int) (n:Nat):d5 prog c3d a9g b2L d6u [1,1,1,0,1,0] [] n (.exit 0) (b5h l c nx0 fx0 x20 x24)=(gd (decide (0≤x20)&&(decide (x20≤(↑nx0:Int))&&decide ((↑nx0:Int)≤(↑nx0:Int))))<|gd ((0+x20.toNat+((↑nx0:Int).toNat - x20.toNat)).ble nx0)<|gd (decide (0≤x20)&&decide (x20≤(↑nx0:Int)))<|gd ((x20.toNat - 0).ble nx0&&true)<|gd ((x20.toNat - 0).ble (x20.toNat - 0)&&true)<|some ([(false,[.tr true (.arr (11) (x20.toNat - 0) (Z8 11 (0+x20.toNat) ((↑nx0:Int).toNat - x20.toNat) (fun x k=>N9 prog 122 0 k) fx0))])],(nu 2))):=by kernel_rfl
theorem e6f (l:List Rm) (c:Dc) (n:Nat):body prog c3d a9g n b2L [vT (eL 11 Rm.cs l),aDc U3 c]=(gd ((0+l.length).ble l.length)<|d7 b0m a5i (c5f) [(0,false,[C.tr false (T.arr 11 l.length (l3 0 l.length (eL 11 Rm.cs l).fn))]),(0,false,[C.fn 148 [Pt.pim 1 (v3 [eL 2 Hd.cs c.1]),Pt.pim 1 (v3 [T.bool c.2]),Pt.pim 2 (v3 [T.int i64 c.h.1,T.int i64 c.h.2])]])] fun (r1:Int)=>bif r1==-1 then gl l.length<|gl l.length<|some ([(false,[.tr true (.arr (11) (l.length) ((eL 11 Rm.cs l).fn))])],(nu 2)) else j5 prog c3d a9g b2L [1,1,1,0,1,0] n n (a0H l c (T.ln (eL 11 Rm.cs l)) (T.fn (eL 11 Rm.cs l)) r1 (i64.wrap (r1+1))) (d5 prog c3d a9g b2L d6u [1,1,1,0,1,0] [] n)):=by kernel_rfl
end Go.Mach.F
namespace Go.Mach.F
open Go Go.Mach Go.Proofs.Tryz
theorem a7W {j k j' k':Nat} {u:T} {f:Nat→Nat→T} (h:Nat.beq k' k=false):b7 j k u f j' k'=f j' k':=by
 unfold b7
 rw [h,Bool.and_false]
 rfl
theorem b6m {j k j' k':Nat} {u:T} {f:Nat→Nat→T} (h:j'≠j):b7 j k u f j' k'=f j' k':=by
 unfold b7
 rw [E4 h,Bool.false_and]
 rfl
theorem e7q {R:Type} (c:Dc) (x:Rm) (A B:R):(bif decide (x.h∈c.met) then (bif c.whole then A else bif !(bif x.h.slot==c.h.slot then bif x.h.gen==c.h.gen then true else false else false) then A else B) else B)=bif gvK c x then A else B:=by
 have e:(bif x.h.slot==c.h.slot then bif x.h.gen==c.h.gen then true else false else false)=decide (x.h=c.h):=by
  rw [a6G,a6F,A1,A1,a6H,c0V]
  exact decide_eq_decide.2 (by simp)
 rw [e]
 unfold gvK a1q
 cases decide (x.h∈c.met) <;> cases c.whole <;> cases decide (x.h=c.h) <;> rfl
theorem f2X {R:Type} (c:Dc) (x:Rm) (A B:R):(bif decide (x.h∈c.met) then (bif c.whole then A else bif !!(bif x.h.slot==c.h.slot then bif x.h.gen==c.h.gen then true else false else false) then B else A) else B)=bif gvK c x then A else B:=by
 rw [← e7q c x A B]
 cases (bif x.h.slot==c.h.slot then bif x.h.gen==c.h.gen then true else false else false) <;> rfl
theorem hix (l:List Hd) (h:Hd):@decide (0≤a5f (l,h)) (Int.decLe 0 (a5f (l,h)))=decide (h∈l):=c6X l h
theorem f2k {α:Type} (p:α→Bool) (l:List α):(∃ (i:Nat) (x:α),ixP p l=(i:Int)∧l[i]?=some x∧p x=true∧∀ j,j < i→∀ y,l[j]?=some y→p y=false)∨(ixP p l=-1∧∀ y,y∈l→p y=false):=by
 unfold ixP
 cases hf:(List.range l.length).find? (fun i=>(l[i]?.map p).getD false) with
 | some i =>
  obtain ⟨h1,h2,h3⟩:=List.find?_range_eq_some.1 hf
  have hx:=List.getElem?_eq_getElem (List.mem_range.1 h2)
  rw [hx] at h1
  refine .inl ⟨i,_,rfl,hx,h1,fun j hj y hy=>?_⟩
  have:=h3 j hj
  rw [hy] at this
  simpa using this
 | none =>
  refine .inr ⟨rfl,fun y hy=>?_⟩
  obtain ⟨j,hj,e⟩:=List.getElem_of_mem hy
  have:=List.find?_eq_none.1 hf j (List.mem_range.2 hj)
  rw [List.getElem?_eq_getElem hj,e] at this
  simpa using this
theorem e6g (l:List Rm) (c:Dc) (h0:b0m (l,c)):body prog (b3 [(U3,a2E)]) b0n (l.length+1) b4a (a5i (l,c))=some (erI 2 (c5f (l,c))):=by
 have hlm:=lm
 obtain ⟨hl,hm⟩:=h0
 dsimp only at hl hm
 have c0:∀ x:Rm,a0i (c.met,x.h):=fun _=>hm
 unfold a5i c5f
 dsimp only
 rw [e9L,show a5V l c 0=(fun i:Nat=>a5V l c (i:Nat)) 0 from rfl,
  a6j l.length (fun i:Nat=>a5V l c (i:Nat)) (b7o l c l.length) 0 (fun i=>(l[i]?.map (gvK c)).getD false) .ret (by simp) (fun i=>b1e l c i) (fun i K hi=>?_) (fun K=>?_) _ (Nat.le_refl _)]
 ·unfold ixP
  cases (List.range l.length).find? (fun i=>(l[i]?.map (gvK c)).getD false) with
  | some i=>exact d3a l c i _
  | none=>exact d3b l c l.length _
 ·have hx:=List.getElem?_eq_getElem hi
  obtain ⟨x,hxe⟩:∃ x,x=l[i]:=⟨_,rfl⟩
  rw [← hxe] at hx
  rw [c1X]
  simp (disch:=omega) only [f4,hi,d6 hx,hx,Rm.cs,o3]
  rw [b4 (c6S (c0 x)) (c6T (c0 x)),hix,e7q,Option.map_some,Option.getD_some]
 ·rw [c1X]
  simp only [p8,Nat.lt_irrefl,decide_false,cond_false]
theorem f2Y:d8 prog e7p e7o:=g8 c5g fun x hx =>
 b9 (φ:=(b3 [(U3,a2E)])) (a9 d6t b5) d9 (kp:=b0n) (n:=x.1.length+1) func134 (c:=d3 b4a) (by kernel_rfl) (e6g x.1 x.2 hx) (b8 (by kernel_rfl))
/-- A room is moved away; a room is d7m. -/
def mvF (f:Nat→Nat→T) (i:Nat):Nat→Nat→T:=b7 i 10 T.hole (b7 i 9 T.hole (b7 i 4 T.hole f))
def ptF (f:Nat→Nat→T) (i:Nat) (x:Rm):Nat→Nat→T:=b7 i 10 (eL 1 b6 x.tags) (b7 i 9 (eL 1 Sf.cs x.things) (b7 i 8 (.int .i64 x.bump) (b7 i 7 (.bool x.cur) (b7 i 6 (.int .i64 x.chunks) (b7 i 5 (.int .i64 x.ep) (b7 i 4 (eL 2 Hd.cs x.kids) (b7 i 3 (.int .i64 x.up.gen) (b7 i 2 (.int .i64 x.up.slot) (b7 i 1 (.int .i64 x.h.gen) (b7 i 0 (.int .i64 x.h.slot) f))))))))))
theorem b6n {f:Nat→Nat→T} {j j' k:Nat} (h:j'≠j):mvF f j j' k=f j' k:=by
 unfold mvF
 rw [b6m h,b6m h,b6m h]
theorem c7n {f:Nat→Nat→T} {i j' k:Nat} {x:Rm} (h:j'≠i):ptF f i x j' k=f j' k:=by
 unfold ptF
 simp only [b6m h]
theorem d6v {j k k':Nat} {u:T} {f:Nat→Nat→T}:b7 j k u f j k'=bif Nat.beq k' k then u else f j k':=by
 unfold b7
 rw [Nat.beq_refl,Bool.true_and]
theorem e2H {f:Nat→Nat→T} {i k:Nat} {x:Rm} (h:k < 11):ptF f i x i k=(Rm.cs x).getD k .hole:=by
 unfold ptF
 simp only [d6v]
 rcases k with _ | _ | _ | _ | _ | _ | _ | _ | _ | _ | _ | k
 all_goals first | rfl | omega
/-- What DeleteFunc over rooms holds. -/
def rg (p:Rm→Bool) (l:List Rm) (b:Nat):Nat→Nat→Nat→T
 | 0=>atL Rm.cs l
 | t+1=>match l[b+t]? with
  | some x=>bif p x then ptF (mvF (rg p l b t) (b+t)) (kpF p l (b+t)).length x else mvF (rg p l b t) (b+t)
  | none=>rg p l b t
theorem d6w (p:Rm→Bool) {l:List Rm} {b t:Nat} {x:Rm} (hx:l[b+t]?=some x):rg p l b (t+1)=bif p x then ptF (mvF (rg p l b t) (b+t)) (kpF p l (b+t)).length x else mvF (rg p l b t) (b+t):=by
 simp only [rg,hx]
theorem e2I (p:Rm→Bool) (l:List Rm) (b:Nat) (hb:(kpF p l b).length < b) (h0:kpF p l b=l.take (kpF p l b).length):∀ t,b+t≤l.length→(kpF p l (b+t)).length < b+t∧(∀ j k,b+t≤j→rg p l b t j k=atL Rm.cs l j k)∧(∀ i k,i < (kpF p l (b+t)).length→k < 11→rg p l b t i k=atL Rm.cs (kpF p l (b+t)) i k)
 | 0,_=>by
  refine ⟨hb,fun _ _ _=>rfl,fun i k hi _=>?_⟩
  show atL Rm.cs l i k=atL Rm.cs (kpF p l b) i k
  have hi:i < (kpF p l b).length:=hi
  unfold atL
  rw [h0,List.getElem?_take,if_pos hi]
 | t+1,ht=>by
  obtain ⟨h1,h2,h3⟩:=e2I p l b hb h0 t (by omega)
  have hj:b+t < l.length:=by omega
  have hx:=List.getElem?_eq_getElem hj
  obtain ⟨x,hxe⟩:∃ x,x=l[b+t]:=⟨_,rfl⟩
  rw [← hxe] at hx
  rw [d6w p hx,show b+(t+1)=b+t+1 from rfl,a5Q p hx]
  cases p x with
  | false =>
   simp only [cond_false]
   exact ⟨by omega,fun j k hjk=>by rw [b6n (by omega)];exact h2 j k (by omega),fun i k hi hk=>by rw [b6n (by omega)];exact h3 i k hi hk⟩
  | true =>
   simp only [cond_true,List.length_append,List.length_singleton]
   refine ⟨by omega,fun j k hjk=>by rw [c7n (by omega),b6n (by omega)];exact h2 j k (by omega),fun i k hi hk=>?_⟩
   by_cases e:i=(kpF p l (b+t)).length
   ·subst e
    rw [e2H hk]
    have:(kpF p l (b+t) ++ [x])[(kpF p l (b+t)).length]?=some x:=by simp
    rw [d6 this]
   ·rw [c7n e,b6n (by omega),h3 i k (by omega) hk]
    unfold atL
    rw [List.getElem?_append_left (by omega)]
theorem e2J (l:List Rm) (c:Dc) (h0:a7a (l,c)):∃ g,body prog c3d a9g (l.length+1) b2L (a2F (l,c))=some ([oT (.arr 11 (a5j (l,c)).length g)],[nul,nul])∧∀ j k,j < (a5j (l,c)).length→k < 11→g j k=atL Rm.cs (a5j (l,c)) j k:=by
 have hlm:=lm
 obtain ⟨hl,hm⟩:=h0
 dsimp only at hl hm
 have c0:b0m (l,c):=⟨hl,hm⟩
 have c1:∀ x:Rm,a0i (c.met,x.h):=fun _=>hm
 obtain ⟨p,hp⟩:∃ p:Rm→Bool,p=fun y=>!gvK c y:=⟨_,rfl⟩
 have hf:a5j (l,c)=kpF p l l.length:=by
  unfold a5j kpF
  rw [List.take_length,hp]
 unfold a2F
 dsimp only
 rw [e6f]
 simp only [f4,i6,Nat.le_refl,G8,List.length_cons,List.length_nil,Nat.reduceAdd]
 rw [b4 (f2h c0) (f2i c0)]
 simp only [f2W,A1]
 rcases f2k (gvK c) l with ⟨i0,x0,e,hi0,hp0,hno⟩ | ⟨e,hn⟩
 ·have hne:¬ (i0:Int)=-1:=by omega
  have hlt:=(List.getElem?_eq_some_iff.1 hi0).1
  have hpre:kpF p l i0=l.take i0:=d6j p fun j hj x hx=>by
   rw [hp]
   simp [hno j hj x hx]
  have hph:p x0=false:=by rw [hp];simp [hp0]
  have hF1:kpF p l (i0+1)=l.take i0:=by rw [a5Q p hi0,hph,cond_false,hpre]
  have hL1:(kpF p l (i0+1)).length=i0:=by rw [hF1,List.length_take];omega
  have hinv:=e2I p l (i0+1) (by omega) (by rw [hL1,hF1])
  rw [e]
  simp (disch:=omega) only [hne,decide_false,cond_false,o3]
  have hst:a0H l c l.length (atL Rm.cs l) (i0:Int) ((i0+1:Nat):Int)=(fun t:Nat=>a0H l c l.length (rg p l (i0+1) t) ((kpF p l (i0+1+t)).length:Int) ((i0+1+t:Nat):Int)) 0:=by
   simp only [Nat.add_zero,hL1,rg]
  rw [hst,v5 (l.length - (i0+1)) (fun t:Nat=>a0H l c l.length (rg p l (i0+1) t) ((kpF p l (i0+1+t)).length:Int) ((i0+1+t:Nat):Int)) (b5h l c l.length (rg p l (i0+1) (l.length - (i0+1))) ((kpF p l l.length).length:Int) (l.length:Int)) 0 (fun t K ht=>?_) (fun K=>?_) _ (by omega)]
  ·have hle:=a8T p l (Nat.le_refl l.length)
   have q1:((kpF p l l.length).length:Int)≤(l.length:Int):=by omega
   have q2:(kpF p l l.length).length+(l.length - (kpF p l l.length).length)≤l.length:=by omega
   rw [c9t]
   simp only [f4,q1,q2,i6,Nat.le_refl,Int.le_refl,Nat.sub_zero,hle]
   rw [hf]
   refine ⟨_,rfl,fun j k hj hk=>?_⟩
   unfold Z8
   rw [i6,decide_eq_false (by omega:¬ (kpF p l l.length).length≤j)]
   simp only [Bool.false_and,Bool.and_false,cond_false]
   have h3:=(hinv (l.length - (i0+1)) (by omega)).2.2 j k
   rw [show i0+1+(l.length - (i0+1))=l.length from by omega] at h3
   exact h3 hj hk
  ·have hjt:i0+1+t < l.length:=by omega
   have hx:=List.getElem?_eq_getElem hjt
   obtain ⟨x,hxe⟩:∃ x,x=l[i0+1+t]:=⟨_,rfl⟩
   rw [← hxe] at hx
   obtain ⟨h1,h2,_⟩:=hinv t (by omega)
   have hA:∀ k,rg p l (i0+1) t (i0+1+t) k=(Rm.cs x).getD k .hole:=fun k=>by rw [h2 _ k (Nat.le_refl _),d6 hx]
   have q0:(kpF p l (i0+1+t)).length < l.length:=by omega
   have w1:IntKind.i64.wrap (((i0+1+t:Nat):Int)+1)=((i0+1+(t+1):Nat):Int):=o3 (by omega)
   have w2:IntKind.i64.wrap (((kpF p l (i0+1+t)).length:Int)+1)=(((kpF p l (i0+1+t)).length+1:Nat):Int):=o3 (by omega)
   have hpx:p x=!gvK c x:=by rw [hp]
   rw [d6w p hx,show i0+1+(t+1)=i0+1+t+1 from rfl,a5Q p hx,hpx]
   rw [c0e]
   simp only [f4,hjt,q0,i6,Nat.le_refl,a7W (rfl:Nat.beq 9 4=false),a7W (rfl:Nat.beq 10 9=false),a7W (rfl:Nat.beq 10 4=false),hA,Rm.cs,w1,w2]
   rw [b4 (c6S (c1 x)) (c6T (c1 x)),hix,f2X]
   cases gvK c x with
   | true=>rfl
   | false =>
    simp only [Bool.not_false,cond_true,cond_false,List.length_append,List.length_singleton]
    unfold ptF mvF
    rfl
  ·have e1:i0+1+(l.length - (i0+1))=l.length:=by omega
   rw [c0e]
   simp only [e1,p8,Nat.lt_irrefl,decide_false,cond_false]
 ·have hff:a5j (l,c)=l:=by
   unfold a5j
   refine List.filter_eq_self.2 fun x hx=>?_
   simp [hn x hx]
  rw [e,hff]
  simp only [decide_true,cond_true]
  exact ⟨_,rfl,fun _ _ _ _=>rfl⟩
theorem f2l:d8 prog b0p b0o:=g8 c1Y fun x hx=>by
 obtain ⟨g,hb,hg⟩:=e2J x.1 x.2 hx
 exact a1N.cut1 (b9 (φ:=c3d) (a9 f2Y (a9 d6t b5)) d9 (kp:=a9g) (n:=x.1.length+1) func147 (c:=d3 b2L) (by kernel_rfl) hb (b8 (by kernel_rfl))) hg
end Go.Mach.F
namespace Go.Mach.F
open Go Go.Mach Go.Proofs.Tryz Go.IntKind
--=set_option maxRecDepth 100000
/-- A room behind a give. -/
def a1v (h:Hd) (w:Bool) (r:Rm):Rm:=bif decide (r.h=h) then ⟨r.h,r.up,[],i64.wrap (r.ep+1),0,false,0,[],[]⟩ else bif w then { r with kids:=r.kids.filter (fun y=>!decide (y=h)) } else r
def I1 (m:Ml):Nat:=(allK m.rooms).length+2
def b2M (m:Ml) (h:Hd) (w:Bool):Ml × Int:=bif decide ((rsv m h).2=0) then (⟨m.c,(m.rooms.filter (fun r=>!gvK ⟨(T5 (I1 m) m.rooms h ([],[])).1,w,h⟩ r)).map (a1v h w),m.log ++ (T5 (I1 m) m.rooms h ([],[])).2⟩,0) else (m,(rsv m h).2)
def H6 (x:Ml × Hd × Bool):Prop:=ok_RmS x.1.rooms∧m6 x.1.log∧(allK x.1.rooms).length < LM∧cntL (fun r=>r.tags.length) x.1.rooms≤LM
def E6 (x:Ml × Hd × Bool):List Arg:=[aR x.1.cs,aR x.2.1.cs,aB x.2.2]
def Z5 (x:Ml × Hd × Bool):Ml × Int:=b2M x.1 x.2.1 x.2.2
noncomputable def c0f:Ent:=ent [] H6 E6 (fun (x:Ml × Int)=>([oR x.1.cs,oT (.int .i64 x.2)],[nul,nul,nul])) Z5
theorem b0S (x y:Ml × Hd × Bool) (h:E6 x=E6 y):x=y:=by
 obtain ⟨m1,h1,w1⟩:=x
 obtain ⟨m2,h2,w2⟩:=y
 simp only [E6,List.cons.injEq,and_true,true_and] at h
 obtain ⟨e0,e1,e2⟩:=h
 obtain rfl:=Ml.cs_ext (j6 e0)
 obtain rfl:=Hd.cs_ext (j6 e1)
 obtain rfl:=b5J e2
 rfl
theorem b8g {m:Ml} {h:Hd} {w:Bool} (h0:H6 (m,h,w)):dom H6 E6 [(wMl m),(wHd h),(0,false,[C.tr false (T.bool w)])]=true:=i3 (ea:=E6) (x:=(m,h,w)) h0
theorem b8h {m:Ml} {h:Hd} {w:Bool} (h0:H6 (m,h,w)):inv H6 E6 [(wMl m),(wHd h),(0,false,[C.tr false (T.bool w)])]=(m,h,w):=g9 b0S (x:=(m,h,w)) h0
theorem c0g (m:Ml) (h:Hd) (w:Bool):Z5 (m,h,w)=b2M m h w:=rfl
def H7 (x:Ml × Hd × Bool):Prop:=ok_RmS x.1.rooms∧m6 x.1.log∧(allK x.1.rooms).length < LM∧cntL (fun r=>r.tags.length) x.1.rooms≤LM
def E7 (x:Ml × Hd × Bool):List Arg:=[aR x.1.cs,aR x.2.1.cs,aB x.2.2]
def Z6 (x:Ml × Hd × Bool):Ml × Int:=b2M x.1 x.2.1 x.2.2
noncomputable def c0h:Ent:=ent [] H7 E7 (fun (x:Ml × Int)=>([oR x.1.cs,oT (.int .i64 x.2)],[nul,nul,nul])) Z6
theorem b0T (x y:Ml × Hd × Bool) (h:E7 x=E7 y):x=y:=by
 obtain ⟨m1,h1,w1⟩:=x
 obtain ⟨m2,h2,w2⟩:=y
 simp only [E7,List.cons.injEq,and_true,true_and] at h
 obtain ⟨e0,e1,e2⟩:=h
 obtain rfl:=Ml.cs_ext (j6 e0)
 obtain rfl:=Hd.cs_ext (j6 e1)
 obtain rfl:=b5J e2
 rfl
theorem b8i {m:Ml} {h:Hd} {w:Bool} (h0:H7 (m,h,w)):dom H7 E7 [(wMl m),(wHd h),(0,false,[C.tr false (T.bool w)])]=true:=i3 (ea:=E7) (x:=(m,h,w)) h0
theorem b8j {m:Ml} {h:Hd} {w:Bool} (h0:H7 (m,h,w)):inv H7 E7 [(wMl m),(wHd h),(0,false,[C.tr false (T.bool w)])]=(m,h,w):=g9 b0T (x:=(m,h,w)) h0
theorem c0i (m:Ml) (h:Hd) (w:Bool):Z6 (m,h,w)=b2M m h w:=rfl
def c0j:Nat:=90
noncomputable abbrev Z7:Func:=f90
def U7:List (Nat × List Nat):=[(0,kq [7,9,11,13,17,32,50,158]),(1,kq [7,9,11,13,17,32,50,158]),(2,kq [7,9,11,13,17,20,32,50,158]),(3,kq [7,9,11,13,17,20,32,48,50,158]),(4,kq [13,14,17,32,50,158]),(5,kq [9,11,13,17,23,24,32,50,54,60,62,158]),(6,kq [9,11,13,17,24,32,50,158]),(7,kq [9,11,13,17,24,32,50,76,78,80,82,158]),(8,kq [9,11,13,17,24,32,50,76,78,80,82,84,158]),(9,kq [9,11,13,17,24,26,29,32,50,76,78,80,82,88,90,158]),(10,kq [9,11,13,17,24,26,29,32,50,76,78,80,82,88,90,92,158]),(11,kq [9,11,13,17,24,32,50,76,78,80,82,158]),(12,kq [9,11,13,17,24,26,29,32,50,76,78,80,82,88,90,124,158]),(13,kq [9,11,13,17,24,32,50,76,78,80,82,158]),(14,kq [9,11,13,17,24,32,50,76,78,80,82,158]),(15,kq [13,17,32,50,158]),(16,kq [13,14,17,32,50,158])]
def b8k:List Nat:=[0,0,0]
def I8 (k:Nat) (m:Ml) (h:Hd) (w:Bool) (r1:Ml) (r3:List Hd × List Int) (r4:List Rm) (nx33_6:Nat) (fx33_6:Nat→Nat→T) (x164:Int):St:=[vp 4 2,vb 4 [ci h.1,ci h.2],vp 5 1,(21,⟨z0,[(false,[co w])]⟩),vp 6 8,vb 6 [ci 0,ci 0,ci 0,ci 0,ci 0,ci 0,ca (11) (0) (fun x x_1=>T.hole),ca (1) (0) (fun x x_1=>T.hole)],vp 8 8,vb 8 [ci r1.c.1,ci r1.c.2,ci r1.c.3,ci r1.c.4,ci r1.c.5,ci r1.c.6,ca (11) (nx33_6) (fx33_6),ca (1) (r1.3.length) ((eL 1 b6 r1.3).fn)],va 12 (1) (r3.2.length) (atL b6 r3.2),(64,⟨z0,[(true,[ci r1.c.1,ci r1.c.2,ci r1.c.3,ci r1.c.4,ci r1.c.5,ci r1.c.6,.tr true (T.hole),.tr true (T.hole)])]⟩),(152,⟨z0,[(false,[(C.pt (Pt.ptr 33 0 [] 8 0 6))])]⟩),vr 39 33 0 [0,6] 11 0 r4.length,vi 40 (↑r4.length:Int),vi 41 x164]
def a4E (k:Nat) (m:Ml) (h:Hd) (w:Bool) (r1:Ml) (r3:List Hd × List Int) (r4:List Rm) (nx33_6:Nat) (fx33_6:Nat→Nat→T) (x164:Int):St:=[vp 4 2,vb 4 [ci h.1,ci h.2],vp 5 1,(21,⟨z0,[(false,[co w])]⟩),vp 6 8,vb 6 [ci 0,ci 0,ci 0,ci 0,ci 0,ci 0,ca (11) (0) (fun x x_1=>T.hole),ca (1) (0) (fun x x_1=>T.hole)],vp 8 8,vb 8 [ci r1.c.1,ci r1.c.2,ci r1.c.3,ci r1.c.4,ci r1.c.5,ci r1.c.6,ca (11) (nx33_6) (fx33_6),ca (1) (r1.3.length) ((eL 1 b6 r1.3).fn)],va 12 (1) (r3.2.length) (atL b6 r3.2),(64,⟨z0,[(true,[ci r1.c.1,ci r1.c.2,ci r1.c.3,ci r1.c.4,ci r1.c.5,ci r1.c.6,.tr true (T.hole),.tr true (T.hole)])]⟩),(152,⟨z0,[(false,[(C.pt (Pt.ptr 33 0 [] 8 0 6))])]⟩),vr 39 33 0 [0,6] 11 0 r4.length,vi 40 (↑r4.length:Int),vi 41 x164,ve 168]
theorem b0q (k:Nat) (m:Ml) (h:Hd) (w:Bool) (r1:Ml) (r3:List Hd × List Int) (r4:List Rm) (nx33_6:Nat) (fx33_6:Nat→Nat→T) (x164:Int) (n:Nat) (K:Ex→St→Res):i8 prog (b3 [(P6,P5),(a0E,a0D),(b0p,b0o),(b0g,b0f),(a1Z,a1Y k)]) U7 Z7 (ons 5 [0,1,0]) n (I8 k m h w r1 r3 r4 nx33_6 fx33_6 x164) K=(bif decide (x164 < (↑r4.length:Int)) then gd (decide (0≤x164)&&(x164.toNat.blt r4.length&&true))<|gd ((0+x164.toNat).blt nx33_6&&true&&(T.isI i64 (fx33_6 (0+x164.toNat) 0)&&T.isI i64 (fx33_6 (0+x164.toNat) 1)&&T.isI i64 (fx33_6 (0+x164.toNat) 2)&&T.isI i64 (fx33_6 (0+x164.toNat) 3)&&((fx33_6 (0+x164.toNat) 4).isArr&&(fx33_6 (0+x164.toNat) 4).wd.beq 2)&&T.isI i64 (fx33_6 (0+x164.toNat) 5)&&T.isI i64 (fx33_6 (0+x164.toNat) 6)&&(fx33_6 (0+x164.toNat) 7).isB&&T.isI i64 (fx33_6 (0+x164.toNat) 8)&&((fx33_6 (0+x164.toNat) 9).isArr&&(fx33_6 (0+x164.toNat) 9).wd.beq 1)&&((fx33_6 (0+x164.toNat) 10).isArr&&(fx33_6 (0+x164.toNat) 10).wd.beq 1)))<|bif bif (fx33_6 (0+x164.toNat) 0).toI==h.1 then bif (fx33_6 (0+x164.toNat) 1).toI==h.2 then true else false else false then gd (decide (0≤x164)&&(x164.toNat.blt nx33_6&&true))<|gd ((0+x164.toNat).blt nx33_6&&true&&true)<|gd ((0+x164.toNat).blt nx33_6&&true&&true)<|gd ((0+x164.toNat).blt nx33_6&&true&&true)<|gd ((0+x164.toNat).blt nx33_6&&true&&true)<|gd ((0+x164.toNat).blt nx33_6&&true&&true)<|gd ((0+x164.toNat).blt nx33_6&&true&&true)<|gd ((0+x164.toNat).blt nx33_6&&true&&true)<|gd ((0+x164.toNat).blt nx33_6&&true&&true)<|gd ((0+x164.toNat).blt nx33_6&&true&&true)<|gd ((0+x164.toNat).blt nx33_6&&true&&true)<|gd ((0+x164.toNat).blt nx33_6&&true&&true)<|K .normal (I8 k m h w r1 r3 r4 (nx33_6) (b7 (0+x164.toNat) (3+1+1+1+1+1+1+1) (T.arr 1 0 fun x x_1=>T.hole) (b7 (0+x164.toNat) (3+1+1+1+1+1+1) (T.arr 1 0 fun x x_1=>T.hole) (b7 (0+x164.toNat) (3+1+1+1+1+1) (T.int i64 0) (b7 (0+x164.toNat) (3+1+1+1+1) (T.bool false) (b7 (0+x164.toNat) (3+1+1+1) (T.int i64 0) (b7 (0+x164.toNat) (3+1+1) (T.int i64 (i64.wrap ((fx33_6 (0+x164.toNat) 5).toI+1))) (b7 (0+x164.toNat) (3+1) (T.arr 2 0 fun x x_1=>T.hole) (b7 (0+x164.toNat) 3 (T.int i64 (fx33_6 (0+x164.toNat) 3).toI) (b7 (0+x164.toNat) 2 (T.int i64 (fx33_6 (0+x164.toNat) 2).toI) (b7 (0+x164.toNat) 1 (T.int i64 h.2) (b7 (0+x164.toNat) 0 (T.int i64 h.1) fx33_6))))))))))) (i64.wrap (x164+1))) else bif w then gd ((0+x164.toNat).blt nx33_6&&true&&true&&((T.arr 11 nx33_6 fx33_6).get [0+x164.toNat,4]).isArr)<|gd ((fx33_6 (0+x164.toNat) 4).ln.ble ((T.arr 11 nx33_6 fx33_6).get [0+x164.toNat,4]).ln&&Nat.beq 2 ((T.arr 11 nx33_6 fx33_6).get [0+x164.toNat,4]).wd)<|d7 a6W a2A (a5g) [(3,false,[C.tr true (T.arr 2 (fx33_6 (0+x164.toNat) 4).ln ((T.arr 11 nx33_6 fx33_6).get [0+x164.toNat,4]).fn)]),(0,false,[C.fn 151 [Pt.pim 2 (v3 [T.int i64 h.1,T.int i64 h.2])]])] fun (r5:List Hd)=>gd (decide (0≤x164)&&(x164.toNat.blt nx33_6&&true))<|gl r5.length<|gd ((0+x164.toNat).blt nx33_6&&true&&true)<|K .normal (I8 k m h w r1 r3 r4 (nx33_6) (b7 (0+x164.toNat) 4 (T.arr 2 r5.length (eL 2 Hd.cs r5).fn) (b7 (0+x164.toNat) 4 T.hole fx33_6)) (i64.wrap (x164+1))) else K .normal (I8 k m h w r1 r3 r4 (nx33_6) (fx33_6) (i64.wrap (x164+1))) else K (.exit 0) (a4E k m h w r1 r3 r4 nx33_6 fx33_6 x164)):=by kernel_rfl
theorem b8q (k:Nat) (m:Ml) (h:Hd) (w:Bool) (r1:Ml) (r3:List Hd × List Int) (r4:List Rm) (nx33_6:Nat) (fx33_6:Nat→Nat→T) (x164:Int) (n:Nat):d5 prog (b3 [(P6,P5),(a0E,a0D),(b0p,b0o),(b0g,b0f),(a1Z,a1Y k)]) U7 Z7 b8k (ons 5 [0,1,0]) [] n (.exit 0) (a4E k m h w r1 r3 r4 nx33_6 fx33_6 x164)=(gl r1.3.length<|gd ((0+r3.2.length).ble r3.2.length)<|gd (((r1.3.length+r3.2.length)*8).ble 70368744177664&&(r1.3.length+r3.2.length).ble 70368744177664)<|gd ((r1.3.length+r3.2.length).ble (r1.3.length+r3.2.length)&&true)<|gl nx33_6<|gd ((r1.3.length+r3.2.length).ble (r1.3.length+r3.2.length)&&true)<|gl nx33_6<|gd ((r1.3.length+r3.2.length).ble (r1.3.length+r3.2.length)&&true)<|some ([(true,[.tr true (T.int i64 r1.c.1),.tr true (T.int i64 r1.c.2),.tr true (T.int i64 r1.c.3),.tr true (T.int i64 r1.c.4),.tr true (T.int i64 r1.c.5),.tr true (T.int i64 r1.c.6),.tr true (.arr (11) (nx33_6) (fx33_6)),.tr true (.arr (1) (r1.3.length+r3.2.length) (n6 r1.3.length (eL 1 b6 r1.3).fn (n7 (l3 0 r3.2.length (atL b6 r3.2)))))]),(false,[.tr true (T.int i64 0)])],(nu 3))):=by kernel_rfl
theorem c7o (k:Nat) (m:Ml) (h:Hd) (w:Bool) (n:Nat):body prog (b3 [(P6,P5),(a0E,a0D),(b0p,b0o),(b0g,b0f),(a1Z,a1Y k)]) U7 n Z7 [aR m.cs,aR h.cs,aB w]=(d7 A9 F9 (Z2) [(wMl m)] fun (r1:Ml)=>gl r1.2.length<|gl r1.3.length<|d7 Q1 T9 (a4T) [(wMl m),(wHd h)] fun (r2:Int × Int)=>bif r2.2 != 0 then gl r1.2.length<|gl r1.3.length<|gl r1.2.length<|gl r1.3.length<|some ([(oR (Ml.cs r1)),(false,[.tr true (T.int i64 r2.2)])],(nu 3)) else d7 (a5h k) a3B (b3Z k) [(wMl m),(wHd h),(3,false,[C.tr true (T.arr 2 0 fun x x_1=>T.hole)]),(3,false,[C.tr true (T.arr 1 0 fun x x_1=>T.hole)])] fun (r3:List Hd × List Int)=>gl r3.1.length<|gl r3.2.length<|gl r1.2.length<|d7 a7a a2F (a5j) [(3,false,[C.tr true (T.arr 11 r1.2.length (eL 11 Rm.cs r1.2).fn)]),(0,false,[C.fn 148 [Pt.pim 1 (v3 [T.arr 2 r3.1.length (eL 2 Hd.cs r3.1).fn]),Pt.pim 1 (v3 [T.bool w]),Pt.pim 2 (v3 [T.int i64 h.1,T.int i64 h.2])]])] fun (r4:List Rm)=>gl r4.length<|j5 prog (b3 [(P6,P5),(a0E,a0D),(b0p,b0o),(b0g,b0f),(a1Z,a1Y k)]) U7 Z7 (ons 5 [0,1,0]) n n (I8 k m h w r1 r3 r4 (r4.length) ((eL 11 Rm.cs r4).fn) (0)) (d5 prog (b3 [(P6,P5),(a0E,a0D),(b0p,b0o),(b0g,b0f),(a1Z,a1Y k)]) U7 Z7 b8k (ons 5 [0,1,0]) [] n)):=by kernel_rfl
def c0k:Nat:=76
noncomputable abbrev C9:Func:=f76
def B3:List (Nat × List Nat):=[(0,kq [4,7,9,13,17,38,56,220]),(1,kq [4,7,9,13,17,38,56,220]),(2,kq [4,7,9,13,17,20,38,56,220]),(3,kq [4,7,9,13,17,20,38,54,56,220]),(4,kq [13,14,17,38,56,220]),(5,kq [4,9,13,17,22,24,38,56,220]),(6,kq [4,9,13,17,22,24,26,38,56,220]),(7,kq [4,9,13,17,22,24,26,28,38,56,220]),(8,kq [4,9,13,17,22,24,26,28,38,56,84,112,114,120,124,130,132,220]),(9,kq [4,9,13,17,22,24,26,28,38,56,220]),(10,kq [4,9,13,17,22,24,26,28,31,38,56,90,92,94,96,98,112,114,120,124,130,132,220]),(11,kq [4,9,13,17,22,24,26,28,31,38,56,90,92,94,96,98,100,120,124,130,132,220]),(12,kq [4,9,13,17,22,24,26,28,31,38,56,90,92,94,96,98,120,124,130,132,220]),(13,kq [4,9,13,17,22,24,26,28,31,38,56,90,92,94,96,98,120,124,130,132,134,220]),(14,kq [4,9,13,17,22,24,26,28,31,38,56,90,92,94,96,98,120,124,130,132,144,220]),(15,kq [4,9,13,17,22,24,26,28,31,32,38,56,90,92,94,96,98,120,124,130,132,220]),(16,kq [4,9,13,17,22,24,26,28,31,32,34,38,56,90,92,94,96,98,120,124,130,132,220]),(17,kq [4,9,13,17,22,24,26,28,31,32,34,38,56,90,92,94,96,98,120,124,130,132,158,220]),(18,kq [4,9,13,17,22,24,26,28,31,32,34,38,56,90,92,94,96,98,120,124,130,132,220]),(19,kq [4,9,13,17,22,24,26,28,31,32,34,38,56,90,92,94,96,98,120,124,130,132,176,220]),(20,kq [4,9,13,17,22,24,26,28,31,32,34,38,56,90,92,94,96,98,120,124,130,132,220]),(21,kq [4,9,13,17,22,24,26,28,31,38,56,90,92,94,96,98,120,124,130,132,220]),(22,kq [4,9,13,17,22,24,26,28,38,56,220]),(23,kq [13,17,22,38,56,220]),(24,kq [13,17,38,56,220]),(25,kq [13,14,17,38,56,220])]
def b8l:List Nat:=[0,0,0]
def B8 (k:Nat) (m:Ml) (h:Hd) (w:Bool) (r1:Ml) (r3:List Int × List Hd) (nx33_6:Nat) (fx33_6:Nat→Nat→T) (nx52:Nat) (fx52:Nat→Nat→T) (x56:Int):St:=[vo 2 w,vp 4 2,vb 4 [ci h.1,ci h.2],vp 6 8,vb 6 [ci 0,ci 0,ci 0,ci 0,ci 0,ci 0,ca (11) (0) (fun x x_1=>T.hole),ca (1) (0) (fun x x_1=>T.hole)],vp 8 8,vb 8 [ci r1.c.1,ci r1.c.2,ci r1.c.3,ci r1.c.4,ci r1.c.5,ci r1.c.6,ca (11) (nx33_6) (fx33_6),ca (1) (r1.3.length) ((eL 1 b6 r1.3).fn)],va 11 (1) (r3.1.length) (atL b6 r3.1),va 12 (2) (r3.2.length) ((eL 2 Hd.cs r3.2).fn),va 13 (11) (nx52) (fx52),vi 14 x56,(76,⟨z0,[(true,[ci r1.c.1,ci r1.c.2,ci r1.c.3,ci r1.c.4,ci r1.c.5,ci r1.c.6,.tr true (T.hole),.tr true (T.hole)])]⟩)]
def I9 (k:Nat) (m:Ml) (h:Hd) (w:Bool) (r1:Ml) (r3:List Int × List Hd) (nx33_6:Nat) (fx33_6:Nat→Nat→T) (nx52:Nat) (fx52:Nat→Nat→T) (x56:Int) (nx64:Nat) (fx64:Nat→Nat→T) (x68:Int):St:=[vo 2 w,vp 4 2,vb 4 [ci h.1,ci h.2],vp 6 8,vb 6 [ci 0,ci 0,ci 0,ci 0,ci 0,ci 0,ca (11) (0) (fun x x_1=>T.hole),ca (1) (0) (fun x x_1=>T.hole)],vp 8 8,vb 8 [ci r1.c.1,ci r1.c.2,ci r1.c.3,ci r1.c.4,ci r1.c.5,ci r1.c.6,ca (11) (nx33_6) (fx33_6),ca (1) (r1.3.length) ((eL 1 b6 r1.3).fn)],va 11 (1) (r3.1.length) (atL b6 r3.1),va 12 (2) (r3.2.length) ((eL 2 Hd.cs r3.2).fn),va 13 (11) (nx52) (fx52),vi 14 x56,vp 15 11,vb 15 [ci ((fx33_6 (0+x56.toNat) 0).toI),ci ((fx33_6 (0+x56.toNat) 1).toI),ci ((fx33_6 (0+x56.toNat) 2).toI),ci ((fx33_6 (0+x56.toNat) 3).toI),(C.ref 33 0 [0,6,0+x56.toNat,4] 2 0 (fx33_6 (0+x56.toNat) 4).ln),ci ((fx33_6 (0+x56.toNat) 5).toI),ci ((fx33_6 (0+x56.toNat) 6).toI),co ((fx33_6 (0+x56.toNat) 7).toB),ci ((fx33_6 (0+x56.toNat) 8).toI),(C.ref 33 0 [0,6,0+x56.toNat,9] 1 0 (fx33_6 (0+x56.toNat) 9).ln),(C.ref 33 0 [0,6,0+x56.toNat,10] 1 0 (fx33_6 (0+x56.toNat) 10).ln)],va 16 (2) (nx64) (fx64),vi 17 x68,(76,⟨z0,[(true,[ci r1.c.1,ci r1.c.2,ci r1.c.3,ci r1.c.4,ci r1.c.5,ci r1.c.6,.tr true (T.hole),.tr true (T.hole)])]⟩),(180,⟨z0,[(false,[(C.pt (Pt.ptr 33 0 [] 8 0 6))])]⟩),vr 46 33 0 [0,6] 11 0 nx33_6,vi 47 x56,(192,⟨z0,[(false,[(C.pt (Pt.ptr 33 0 [0,6] 11 (0+x56.toNat) 0))])]⟩),(196,⟨z0,[(true,[ci ((fx33_6 (0+x56.toNat) 0).toI),ci ((fx33_6 (0+x56.toNat) 1).toI),ci ((fx33_6 (0+x56.toNat) 2).toI),ci ((fx33_6 (0+x56.toNat) 3).toI),(C.ref 33 0 [0,6,0+x56.toNat,4] 2 0 (fx33_6 (0+x56.toNat) 4).ln),ci ((fx33_6 (0+x56.toNat) 5).toI),ci ((fx33_6 (0+x56.toNat) 6).toI),co ((fx33_6 (0+x56.toNat) 7).toB),ci ((fx33_6 (0+x56.toNat) 8).toI),(C.ref 33 0 [0,6,0+x56.toNat,9] 1 0 (fx33_6 (0+x56.toNat) 9).ln),(C.ref 33 0 [0,6,0+x56.toNat,10] 1 0 (fx33_6 (0+x56.toNat) 10).ln)])]⟩)]
def a4F (k:Nat) (m:Ml) (h:Hd) (w:Bool) (r1:Ml) (r3:List Int × List Hd) (nx33_6:Nat) (fx33_6:Nat→Nat→T) (nx52:Nat) (fx52:Nat→Nat→T) (x56:Int) (nx64:Nat) (fx64:Nat→Nat→T) (x68:Int):St:=[vo 2 w,vp 4 2,vb 4 [ci h.1,ci h.2],vp 6 8,vb 6 [ci 0,ci 0,ci 0,ci 0,ci 0,ci 0,ca (11) (0) (fun x x_1=>T.hole),ca (1) (0) (fun x x_1=>T.hole)],vp 8 8,vb 8 [ci r1.c.1,ci r1.c.2,ci r1.c.3,ci r1.c.4,ci r1.c.5,ci r1.c.6,ca (11) (nx33_6) (fx33_6),ca (1) (r1.3.length) ((eL 1 b6 r1.3).fn)],va 11 (1) (r3.1.length) (atL b6 r3.1),va 12 (2) (r3.2.length) ((eL 2 Hd.cs r3.2).fn),va 13 (11) (nx52) (fx52),vi 14 x56,vp 15 11,vb 15 [ci ((fx33_6 (0+x56.toNat) 0).toI),ci ((fx33_6 (0+x56.toNat) 1).toI),ci ((fx33_6 (0+x56.toNat) 2).toI),ci ((fx33_6 (0+x56.toNat) 3).toI),(C.ref 33 0 [0,6,0+x56.toNat,4] 2 0 (fx33_6 (0+x56.toNat) 4).ln),ci ((fx33_6 (0+x56.toNat) 5).toI),ci ((fx33_6 (0+x56.toNat) 6).toI),co ((fx33_6 (0+x56.toNat) 7).toB),ci ((fx33_6 (0+x56.toNat) 8).toI),(C.ref 33 0 [0,6,0+x56.toNat,9] 1 0 (fx33_6 (0+x56.toNat) 9).ln),(C.ref 33 0 [0,6,0+x56.toNat,10] 1 0 (fx33_6 (0+x56.toNat) 10).ln)],va 16 (2) (nx64) (fx64),vi 17 x68,(76,⟨z0,[(true,[ci r1.c.1,ci r1.c.2,ci r1.c.3,ci r1.c.4,ci r1.c.5,ci r1.c.6,.tr true (T.hole),.tr true (T.hole)])]⟩),(180,⟨z0,[(false,[(C.pt (Pt.ptr 33 0 [] 8 0 6))])]⟩),vr 46 33 0 [0,6] 11 0 nx33_6,vi 47 x56,(192,⟨z0,[(false,[(C.pt (Pt.ptr 33 0 [0,6] 11 (0+x56.toNat) 0))])]⟩),(196,⟨z0,[(true,[ci ((fx33_6 (0+x56.toNat) 0).toI),ci ((fx33_6 (0+x56.toNat) 1).toI),ci ((fx33_6 (0+x56.toNat) 2).toI),ci ((fx33_6 (0+x56.toNat) 3).toI),(C.ref 33 0 [0,6,0+x56.toNat,4] 2 0 (fx33_6 (0+x56.toNat) 4).ln),ci ((fx33_6 (0+x56.toNat) 5).toI),ci ((fx33_6 (0+x56.toNat) 6).toI),co ((fx33_6 (0+x56.toNat) 7).toB),ci ((fx33_6 (0+x56.toNat) 8).toI),(C.ref 33 0 [0,6,0+x56.toNat,9] 1 0 (fx33_6 (0+x56.toNat) 9).ln),(C.ref 33 0 [0,6,0+x56.toNat,10] 1 0 (fx33_6 (0+x56.toNat) 10).ln)])]⟩),ve 316]
theorem b0r (k:Nat) (m:Ml) (h:Hd) (w:Bool) (r1:Ml) (r3:List Int × List Hd) (nx33_6:Nat) (fx33_6:Nat→Nat→T) (nx52:Nat) (fx52:Nat→Nat→T) (x56:Int) (nx64:Nat) (fx64:Nat→Nat→T) (x68:Int) (n:Nat) (K:Ex→St→Res):i8 prog (b3 [(C8,C7),(L0,K9),(F4,F3),(K1,K0 k)]) B3 C9 (ons 6 [0,1,0,0,1,0,0,1,0,0,1,1,1,1,1,0,1,0,1,0]) n (I9 k m h w r1 r3 nx33_6 fx33_6 nx52 fx52 x56 nx64 fx64 x68) K=(bif decide (x68 < (↑(fx33_6 (0+x56.toNat) 4).ln:Int)) then gd (decide (0≤x68)&&(x68.toNat.blt (fx33_6 (0+x56.toNat) 4).ln&&true))<|gd ((0+x56.toNat).blt nx33_6&&true&&true&&((T.arr 11 nx33_6 fx33_6).get [0+x56.toNat,4]).isArr)<|gd (Nat.beq 2 ((T.arr 11 nx33_6 fx33_6).get [0+x56.toNat,4]).wd&&((0+x68.toNat).blt ((T.arr 11 nx33_6 fx33_6).get [0+x56.toNat,4]).ln&&true)&&(T.isI i64 (((T.arr 11 nx33_6 fx33_6).get [0+x56.toNat,4]).fn (0+x68.toNat) 0)&&T.isI i64 (((T.arr 11 nx33_6 fx33_6).get [0+x56.toNat,4]).fn (0+x68.toNat) 1)))<|bif !bif (((T.arr 11 nx33_6 fx33_6).get [0+x56.toNat,4]).fn (0+x68.toNat) 0).toI==h.1 then bif (((T.arr 11 nx33_6 fx33_6).get [0+x56.toNat,4]).fn (0+x68.toNat) 1).toI==h.2 then true else false else false then gd (decide (0≤x68)&&(x68.toNat.blt (fx33_6 (0+x56.toNat) 4).ln&&true))<|gd ((0+x56.toNat).blt nx33_6&&true&&true&&((T.arr 11 nx33_6 fx33_6).get [0+x56.toNat,4]).isArr)<|gd (Nat.beq 2 ((T.arr 11 nx33_6 fx33_6).get [0+x56.toNat,4]).wd&&((0+x68.toNat).blt ((T.arr 11 nx33_6 fx33_6).get [0+x56.toNat,4]).ln&&true)&&(T.isI i64 (((T.arr 11 nx33_6 fx33_6).get [0+x56.toNat,4]).fn (0+x68.toNat) 0)&&T.isI i64 (((T.arr 11 nx33_6 fx33_6).get [0+x56.toNat,4]).fn (0+x68.toNat) 1)))<|gl nx64<|gd (((nx64+1)*16).ble 70368744177664&&(nx64+1).ble 70368744177664)<|gd ((nx64+1).ble (nx64+1)&&true)<|K .normal (I9 k m h w r1 r3 nx33_6 fx33_6 nx52 fx52 x56 (nx64+1) (n6 nx64 fx64 (n7 (l3 0 1 (i4 [[T.int i64 (((T.arr 11 nx33_6 fx33_6).get [0+x56.toNat,4]).fn (0+x68.toNat) 0).toI,T.int i64 (((T.arr 11 nx33_6 fx33_6).get [0+x56.toNat,4]).fn (0+x68.toNat) 1).toI]])))) (i64.wrap (x68+1))) else K .normal (I9 k m h w r1 r3 nx33_6 fx33_6 nx52 fx52 x56 (nx64) (fx64) (i64.wrap (x68+1))) else K (.exit 3) (a4F k m h w r1 r3 nx33_6 fx33_6 nx52 fx52 x56 nx64 fx64 x68)):=by kernel_rfl
theorem b8r (k:Nat) (m:Ml) (h:Hd) (w:Bool) (r1:Ml) (r3:List Int × List Hd) (nx33_6:Nat) (fx33_6:Nat→Nat→T) (nx52:Nat) (fx52:Nat→Nat→T) (x56:Int) (nx64:Nat) (fx64:Nat→Nat→T) (x68:Int) (n:Nat) (K:Ex→St→Res):d0z prog (b3 [(C8,C7),(L0,K9),(F4,F3),(K1,K0 k)]) B3 C9 (ons 6 [0,1,0]) [1,0,0,1,0,0,1,1,1,1,1,0,1,0,1,0] n K (.exit 3) (a4F k m h w r1 r3 nx33_6 fx33_6 nx52 fx52 x56 nx64 fx64 x68)=(gl nx64<|gl nx64<|gd ((0+x56.toNat).blt nx33_6&&true&&true&&((T.arr 11 nx33_6 fx33_6).get [0+x56.toNat,9]).isArr)<|gd ((fx33_6 (0+x56.toNat) 9).ln.ble ((T.arr 11 nx33_6 fx33_6).get [0+x56.toNat,9]).ln&&Nat.beq 1 ((T.arr 11 nx33_6 fx33_6).get [0+x56.toNat,9]).wd)<|gd ((0+x56.toNat).blt nx33_6&&true&&true&&((T.arr 11 nx33_6 (b7 (0+x56.toNat) 9 T.hole fx33_6)).get [0+x56.toNat,10]).isArr)<|gd ((fx33_6 (0+x56.toNat) 10).ln.ble ((T.arr 11 nx33_6 (b7 (0+x56.toNat) 9 T.hole fx33_6)).get [0+x56.toNat,10]).ln&&Nat.beq 1 ((T.arr 11 nx33_6 (b7 (0+x56.toNat) 9 T.hole fx33_6)).get [0+x56.toNat,10]).wd)<|gl nx52<|gd (((nx52+1)*136).ble 70368744177664&&(nx52+1).ble 70368744177664)<|gd ((nx52+1).ble (nx52+1)&&true)<|K .normal (B8 k m h w r1 r3 (nx33_6) (b7 (0+x56.toNat) 10 T.hole (b7 (0+x56.toNat) 9 T.hole fx33_6)) (nx52+1) (n6 nx52 fx52 (i4 [[T.int i64 (fx33_6 (0+x56.toNat) 0).toI,T.int i64 (fx33_6 (0+x56.toNat) 1).toI,T.int i64 (fx33_6 (0+x56.toNat) 2).toI,T.int i64 (fx33_6 (0+x56.toNat) 3).toI,T.arr 2 nx64 fx64,T.int i64 (fx33_6 (0+x56.toNat) 5).toI,T.int i64 (fx33_6 (0+x56.toNat) 6).toI,T.bool (fx33_6 (0+x56.toNat) 7).toB,T.int i64 (fx33_6 (0+x56.toNat) 8).toI,T.arr 1 (fx33_6 (0+x56.toNat) 9).ln ((T.arr 11 nx33_6 fx33_6).get [0+x56.toNat,9]).fn,T.arr 1 (fx33_6 (0+x56.toNat) 10).ln ((T.arr 11 nx33_6 (b7 (0+x56.toNat) 9 T.hole fx33_6)).get [0+x56.toNat,10]).fn]])) (i64.wrap (x56+1)))):=by kernel_rfl
def a4G (k:Nat) (m:Ml) (h:Hd) (w:Bool) (r1:Ml) (r3:List Int × List Hd) (nx33_6:Nat) (fx33_6:Nat→Nat→T) (nx52:Nat) (fx52:Nat→Nat→T) (x56:Int):St:=[vo 2 w,vp 4 2,vb 4 [ci h.1,ci h.2],vp 6 8,vb 6 [ci 0,ci 0,ci 0,ci 0,ci 0,ci 0,ca (11) (0) (fun x x_1=>T.hole),ca (1) (0) (fun x x_1=>T.hole)],vp 8 8,vb 8 [ci r1.c.1,ci r1.c.2,ci r1.c.3,ci r1.c.4,ci r1.c.5,ci r1.c.6,ca (11) (nx33_6) (fx33_6),ca (1) (r1.3.length) ((eL 1 b6 r1.3).fn)],va 11 (1) (r3.1.length) (atL b6 r3.1),va 12 (2) (r3.2.length) ((eL 2 Hd.cs r3.2).fn),va 13 (11) (nx52) (fx52),vi 14 x56,(76,⟨z0,[(true,[ci r1.c.1,ci r1.c.2,ci r1.c.3,ci r1.c.4,ci r1.c.5,ci r1.c.6,.tr true (T.hole),.tr true (T.hole)])]⟩),ve 168]
theorem b0s (k:Nat) (m:Ml) (h:Hd) (w:Bool) (r1:Ml) (r3:List Int × List Hd) (nx33_6:Nat) (fx33_6:Nat→Nat→T) (nx52:Nat) (fx52:Nat→Nat→T) (x56:Int) (n:Nat) (K:Ex→St→Res):i8 prog (b3 [(C8,C7),(L0,K9),(F4,F3),(K1,K0 k)]) B3 C9 (ons 6 [0,1,0]) n (B8 k m h w r1 r3 nx33_6 fx33_6 nx52 fx52 x56) K=(let q0:=b7 (0+x56.toNat) 4 T.hole fx33_6;let q1:=b7 (0+x56.toNat) 9 T.hole q0;let q2:=T.arr 2 r3.2.length (l3 0 r3.2.length (eL 2 Hd.cs r3.2).fn);let q3:=n6 nx52 fx52 (i4 [[T.int i64 (fx33_6 (0+x56.toNat) 0).toI,T.int i64 (fx33_6 (0+x56.toNat) 1).toI,T.int i64 (fx33_6 (0+x56.toNat) 2).toI,T.int i64 (fx33_6 (0+x56.toNat) 3).toI,T.arr 2 (fx33_6 (0+x56.toNat) 4).ln ((T.arr 11 nx33_6 fx33_6).get [0+x56.toNat,4]).fn,T.int i64 (fx33_6 (0+x56.toNat) 5).toI,T.int i64 (fx33_6 (0+x56.toNat) 6).toI,T.bool (fx33_6 (0+x56.toNat) 7).toB,T.int i64 (fx33_6 (0+x56.toNat) 8).toI,T.arr 1 (fx33_6 (0+x56.toNat) 9).ln ((T.arr 11 nx33_6 q0).get [0+x56.toNat,9]).fn,T.arr 1 (fx33_6 (0+x56.toNat) 10).ln ((T.arr 11 nx33_6 q1).get [0+x56.toNat,10]).fn]]);bif decide (x56 < (↑nx33_6:Int)) then gd (decide (0≤x56)&&(x56.toNat.blt nx33_6&&true))<|gd ((0+x56.toNat).blt nx33_6&&true&&(T.isI i64 (fx33_6 (0+x56.toNat) 0)&&T.isI i64 (fx33_6 (0+x56.toNat) 1)&&T.isI i64 (fx33_6 (0+x56.toNat) 2)&&T.isI i64 (fx33_6 (0+x56.toNat) 3)&&((fx33_6 (0+x56.toNat) 4).isArr&&(fx33_6 (0+x56.toNat) 4).wd.beq 2)&&T.isI i64 (fx33_6 (0+x56.toNat) 5)&&T.isI i64 (fx33_6 (0+x56.toNat) 6)&&(fx33_6 (0+x56.toNat) 7).isB&&T.isI i64 (fx33_6 (0+x56.toNat) 8)&&((fx33_6 (0+x56.toNat) 9).isArr&&(fx33_6 (0+x56.toNat) 9).wd.beq 1)&&((fx33_6 (0+x56.toNat) 10).isArr&&(fx33_6 (0+x56.toNat) 10).wd.beq 1)))<|bif bif (fx33_6 (0+x56.toNat) 0).toI==h.1 then bif (fx33_6 (0+x56.toNat) 1).toI==h.2 then true else false else false then bif !w then gl nx52<|gd (((nx52+1)*136).ble 70368744177664&&(nx52+1).ble 70368744177664)<|gd ((nx52+1).ble (nx52+1)&&true)<|K .normal (B8 k m h w r1 r3 (nx33_6) (fx33_6) (nx52+1) (n6 nx52 fx52 (i4 [[T.int i64 (fx33_6 (0+x56.toNat) 0).toI,T.int i64 (fx33_6 (0+x56.toNat) 1).toI,T.int i64 (fx33_6 (0+x56.toNat) 2).toI,T.int i64 (fx33_6 (0+x56.toNat) 3).toI,T.arr 2 0 fun x x_1=>T.hole,T.int i64 (i64.wrap ((fx33_6 (0+x56.toNat) 5).toI+1)),T.int i64 0,T.bool false,T.int i64 0,T.arr 1 0 fun x x_1=>T.hole,T.arr 1 0 fun x x_1=>T.hole]])) (i64.wrap (x56+1))) else gd ((0+r3.2.length).ble r3.2.length)<|d7 Z4 U6 (a8S) [(0,false,[C.tr false q2]),(0,true,[C.tr false (T.int i64 (fx33_6 (0+x56.toNat) 0).toI),C.tr false (T.int i64 (fx33_6 (0+x56.toNat) 1).toI)])] fun (r4:Bool)=>bif r4 then K .normal (B8 k m h w r1 r3 (nx33_6) (fx33_6) (nx52) (fx52) (i64.wrap (x56+1))) else bif w then j5 prog (b3 [(C8,C7),(L0,K9),(F4,F3),(K1,K0 k)]) B3 C9 (ons 6 [0,1,0,0,1,0,0,1,0,0,1,1,1,1,1,0,1,0,1,0]) n n (I9 k m h w r1 r3 nx33_6 fx33_6 nx52 fx52 x56 (0) (i4 []) (0)) (d0z prog (b3 [(C8,C7),(L0,K9),(F4,F3),(K1,K0 k)]) B3 C9 (ons 6 [0,1,0]) [1,0,0,1,0,0,1,1,1,1,1,0,1,0,1,0] n K) else gd ((0+x56.toNat).blt nx33_6&&true&&true&&((T.arr 11 nx33_6 fx33_6).get [0+x56.toNat,4]).isArr)<|gd ((fx33_6 (0+x56.toNat) 4).ln.ble ((T.arr 11 nx33_6 fx33_6).get [0+x56.toNat,4]).ln&&Nat.beq 2 ((T.arr 11 nx33_6 fx33_6).get [0+x56.toNat,4]).wd)<|gd ((0+x56.toNat).blt nx33_6&&true&&true&&((T.arr 11 nx33_6 q0).get [0+x56.toNat,9]).isArr)<|gd ((fx33_6 (0+x56.toNat) 9).ln.ble ((T.arr 11 nx33_6 q0).get [0+x56.toNat,9]).ln&&Nat.beq 1 ((T.arr 11 nx33_6 q0).get [0+x56.toNat,9]).wd)<|gd ((0+x56.toNat).blt nx33_6&&true&&true&&((T.arr 11 nx33_6 q1).get [0+x56.toNat,10]).isArr)<|gd ((fx33_6 (0+x56.toNat) 10).ln.ble ((T.arr 11 nx33_6 q1).get [0+x56.toNat,10]).ln&&Nat.beq 1 ((T.arr 11 nx33_6 q1).get [0+x56.toNat,10]).wd)<|gl nx52<|gd (((nx52+1)*136).ble 70368744177664&&(nx52+1).ble 70368744177664)<|gd ((nx52+1).ble (nx52+1)&&true)<|K .normal (B8 k m h w r1 r3 (nx33_6) (b7 (0+x56.toNat) 10 T.hole q1) (nx52+1) q3 (i64.wrap (x56+1))) else gd ((0+r3.2.length).ble r3.2.length)<|d7 Z4 U6 (a8S) [(0,false,[C.tr false q2]),(0,true,[C.tr false (T.int i64 (fx33_6 (0+x56.toNat) 0).toI),C.tr false (T.int i64 (fx33_6 (0+x56.toNat) 1).toI)])] fun (r5:Bool)=>bif r5 then K .normal (B8 k m h w r1 r3 (nx33_6) (fx33_6) (nx52) (fx52) (i64.wrap (x56+1))) else bif w then j5 prog (b3 [(C8,C7),(L0,K9),(F4,F3),(K1,K0 k)]) B3 C9 (ons 6 [0,1,0,0,1,0,0,1,0,0,1,1,1,1,1,0,1,0,1,0]) n n (I9 k m h w r1 r3 nx33_6 fx33_6 nx52 fx52 x56 (0) (i4 []) (0)) (d0z prog (b3 [(C8,C7),(L0,K9),(F4,F3),(K1,K0 k)]) B3 C9 (ons 6 [0,1,0]) [1,0,0,1,0,0,1,1,1,1,1,0,1,0,1,0] n K) else gd ((0+x56.toNat).blt nx33_6&&true&&true&&((T.arr 11 nx33_6 fx33_6).get [0+x56.toNat,4]).isArr)<|gd ((fx33_6 (0+x56.toNat) 4).ln.ble ((T.arr 11 nx33_6 fx33_6).get [0+x56.toNat,4]).ln&&Nat.beq 2 ((T.arr 11 nx33_6 fx33_6).get [0+x56.toNat,4]).wd)<|gd ((0+x56.toNat).blt nx33_6&&true&&true&&((T.arr 11 nx33_6 q0).get [0+x56.toNat,9]).isArr)<|gd ((fx33_6 (0+x56.toNat) 9).ln.ble ((T.arr 11 nx33_6 q0).get [0+x56.toNat,9]).ln&&Nat.beq 1 ((T.arr 11 nx33_6 q0).get [0+x56.toNat,9]).wd)<|gd ((0+x56.toNat).blt nx33_6&&true&&true&&((T.arr 11 nx33_6 q1).get [0+x56.toNat,10]).isArr)<|gd ((fx33_6 (0+x56.toNat) 10).ln.ble ((T.arr 11 nx33_6 q1).get [0+x56.toNat,10]).ln&&Nat.beq 1 ((T.arr 11 nx33_6 q1).get [0+x56.toNat,10]).wd)<|gl nx52<|gd (((nx52+1)*136).ble 70368744177664&&(nx52+1).ble 70368744177664)<|gd ((nx52+1).ble (nx52+1)&&true)<|K .normal (B8 k m h w r1 r3 (nx33_6) (b7 (0+x56.toNat) 10 T.hole q1) (nx52+1) q3 (i64.wrap (x56+1))) else K (.exit 0) (a4G k m h w r1 r3 nx33_6 fx33_6 nx52 fx52 x56)):=by kernel_rfl
theorem b8s (k:Nat) (m:Ml) (h:Hd) (w:Bool) (r1:Ml) (r3:List Int × List Hd) (nx33_6:Nat) (fx33_6:Nat→Nat→T) (nx52:Nat) (fx52:Nat→Nat→T) (x56:Int) (n:Nat):d5 prog (b3 [(C8,C7),(L0,K9),(F4,F3),(K1,K0 k)]) B3 C9 b8l (ons 6 [0,1,0]) [] n (.exit 0) (a4G k m h w r1 r3 nx33_6 fx33_6 nx52 fx52 x56)=(gl nx52<|gl r1.3.length<|gd ((0+r3.1.length).ble r3.1.length)<|gd (((r1.3.length+r3.1.length)*8).ble 70368744177664&&(r1.3.length+r3.1.length).ble 70368744177664)<|gd ((r1.3.length+r3.1.length).ble (r1.3.length+r3.1.length)&&true)<|gl nx52<|gd ((r1.3.length+r3.1.length).ble (r1.3.length+r3.1.length)&&true)<|gl nx52<|gd ((r1.3.length+r3.1.length).ble (r1.3.length+r3.1.length)&&true)<|some ([(true,[.tr true (T.int i64 r1.c.1),.tr true (T.int i64 r1.c.2),.tr true (T.int i64 r1.c.3),.tr true (T.int i64 r1.c.4),.tr true (T.int i64 r1.c.5),.tr true (T.int i64 r1.c.6),.tr true (.arr (11) (nx52) (fx52)),.tr true (.arr (1) (r1.3.length+r3.1.length) (n6 r1.3.length (eL 1 b6 r1.3).fn (n7 (l3 0 r3.1.length (atL b6 r3.1)))))]),(false,[.tr true (T.int i64 0)])],(nu 3))):=by kernel_rfl
theorem c7p (k:Nat) (m:Ml) (h:Hd) (w:Bool) (n:Nat):body prog (b3 [(C8,C7),(L0,K9),(F4,F3),(K1,K0 k)]) B3 n C9 [aR m.cs,aR h.cs,aB w]=(d7 p9 w5 (E2) [(wMl m)] fun (r1:Ml)=>gl r1.2.length<|gl r1.3.length<|d7 Q2 U0 (a4U) [(wMl m),(wHd h)] fun (r2:Int × Int)=>bif r2.2 != 0 then gl r1.2.length<|gl r1.3.length<|gl r1.2.length<|gl r1.3.length<|some ([(oR (Ml.cs r1)),(false,[.tr true (T.int i64 r2.2)])],(nu 3)) else d7 (a2B k) a1r (b0h k) [(wMl m),(wHd h),(3,false,[C.tr true (T.arr 2 0 (i4 []))])] fun (r3:List Int × List Hd)=>gl r3.1.length<|gl r3.2.length<|j5 prog (b3 [(C8,C7),(L0,K9),(F4,F3),(K1,K0 k)]) B3 C9 (ons 6 [0,1,0]) n n (B8 k m h w r1 r3 (r1.2.length) ((eL 11 Rm.cs r1.2).fn) (0) (i4 []) (0)) (d5 prog (b3 [(C8,C7),(L0,K9),(F4,F3),(K1,K0 k)]) B3 C9 b8l (ons 6 [0,1,0]) [] n)):=by kernel_rfl
end Go.Mach.F
namespace Go.Mach.F
open Go Go.Mach Go.Proofs.Tryz
/-- A list of which the first elements are turned. -/
def gvA {α:Type} (g:α→α) (l:List α) (i:Nat):List α:=(l.take i).map g ++ l.drop i
theorem e9O {α:Type} (g:α→α) {l:List α} {i:Nat} (h:i < l.length):(gvA g l i)[i]?=l[i]?:=by
 unfold gvA
 have hl:((l.take i).map g).length=i:=by rw [List.length_map,List.length_take];omega
 rw [List.getElem?_append_right (by omega),hl,List.getElem?_drop,Nat.sub_self,Nat.add_zero]
theorem e9P {α:Type} (g:α→α) (l:List α):gvA g l l.length=l.map g:=by
 unfold gvA
 rw [List.take_length,List.drop_length,List.append_nil]
theorem e6h {α:Type} (g:α→α) {l:List α} {i:Nat} {x:α} (hx:l[i]?=some x):gvA g l (i+1)=(gvA g l i).set i (g x):=by
 have h:=(List.getElem?_eq_some_iff.1 hx).1
 have hl:((l.take i).map g).length=i:=by rw [List.length_map,List.length_take];omega
 have e:=(List.getElem?_eq_some_iff.1 hx).2
 unfold gvA
 rw [List.take_add_one,hx,List.map_append,List.append_assoc,List.set_append_right _ _ (by omega),hl,Nat.sub_self,List.drop_eq_getElem_cons h,e]
 rfl
theorem e6i {α:Type} {l:List α} {i:Nat} {x:α} (h:l[i]?=some x):l.set i x=l:=by
 obtain ⟨h1,h2⟩:=List.getElem?_eq_some_iff.1 h
 rw [← h2]
 exact List.set_getElem_self h1
theorem e6j {l:List Rm} {i:Nat} {x y:Rm} (hy:l[i]?=some y):ptF (atL Rm.cs l) i x=atL Rm.cs (l.set i x):=by
 funext j k
 by_cases h:j=i
 ·subst h
  rw [d6 (d2z (y:=x) hy)]
  by_cases hk:k < 11
  ·rw [e2H hk]
  ·unfold ptF
   simp only [d6v,E4 (show k≠10 by omega),E4 (show k≠9 by omega),E4 (show k≠8 by omega),E4 (show k≠7 by omega),E4 (show k≠6 by omega),E4 (show k≠5 by omega),E4 (show k≠4 by omega),E4 (show k≠3 by omega),E4 (show k≠2 by omega),E4 (show k≠1 by omega),E4 (show k≠0 by omega),cond_false]
   rw [d6 hy,List.getD_eq_getElem?_getD,List.getD_eq_getElem?_getD,List.getElem?_eq_none (by show 11≤k;omega),List.getElem?_eq_none (by show 11≤k;omega)]
 ·rw [c7n h]
  unfold atL
  rw [List.getElem?_set_ne (Ne.symm h)]
theorem c7q {h:Hd} {w:Bool} {r:Rm} (e:r.h=h):a1v h w r=⟨h,r.up,[],IntKind.i64.wrap (r.ep+1),0,false,0,[],[]⟩:=by
 unfold a1v
 rw [decide_eq_true e,e]
 rfl
theorem c3e {h:Hd} {w:Bool} {r:Rm} (e:¬ r.h=h):a1v h w r=bif w then { r with kids:=r.kids.filter (fun y=>!decide (y=h)) } else r:=by
 unfold a1v
 rw [decide_eq_false e]
 rfl
theorem c7r (x h:Hd):(bif x.slot==h.slot then bif x.gen==h.gen then true else false else false)=decide (x=h):=by
 rw [a6G,a6F,A1,A1,a6H,c0V]
 exact decide_eq_decide.2 (by simp)
theorem c5h (m:Ml) (h:Hd) (w:Bool) (h0:H6 (m,h,w)):body prog (b3 [(P6,P5),(a0E,a0D),(b0p,b0o),(b0g,b0f),(a1Z,a1Y (I1 m))]) U7 (m.rooms.length+1) Z7 (E6 (m,h,w))=some ([oR (Z5 (m,h,w)).1.cs,oT (.int .i64 (Z5 (m,h,w)).2)],[nul,nul,nul]):=by
 have hlm:=lm
 obtain ⟨⟨h1,h2⟩,h3,h4⟩:(ok_RmS m.rooms∧m6 m.log)∧(allK m.rooms).length < LM∧cntL (fun r=>r.tags.length) m.rooms≤LM:=⟨⟨h0.1,h0.2.1⟩,h0.2.2.1,h0.2.2.2⟩
 have hl:m.rooms.length≤LM:=h1.1
 have hlog:m.log.length≤LM:=h2
 have c0:A9 m:=⟨h1,h2⟩
 have c1:Q1 (m,h):=hl
 unfold E6 Z5 b2M
 dsimp only
 rw [c7o]
 try simp only [l7,Ml.cs,Hd.cs]
 rw [b4 (a3s c0) (a3t c0)]
 simp only [a5G,f4,i6,Nat.le_refl]
 rw [b4 (b5Y c1) (b5Z c1)]
 simp only [b9y,w7,A1]
 by_cases e:(rsv m h).2=0
 case neg =>
  simp only [e,decide_false,Bool.not_false,cond_true,cond_false]
  rfl
 simp only [e,decide_true,Bool.not_true,cond_true,cond_false]
 have hm0:MetOk m.rooms h []:=⟨List.nodup_nil,fun x hx=>by cases hx⟩
 have c2:a5h (I1 m) (m,h,[],[]):=⟨⟨h1,h3,h4,⟨h,hm0,.inl rfl⟩,by simp [I1]⟩,Nat.zero_le _⟩
 rw [show T.arr 2 0 (fun _ _=>T.hole)=T.arr 2 ([]:List Hd).length (atL Hd.cs []) from rfl,show T.arr 1 0 (fun _ _=>T.hole)=T.arr 1 ([]:List Int).length (atL b6 []) from rfl]
 rw [b4 (e2e c2) (e2f c2)]
 have hgp:=b2G m.rooms h (I1 m) h ([],[]) 0 ⟨hm0,Nat.zero_le _,Nat.zero_le _⟩ (.inl rfl)
 have hal:=hgp.1.len
 have htl:=Nat.le_trans hgp.2.1 (b1q m.rooms hgp.1.nd)
 simp only [b3Z]
 obtain ⟨a,ha⟩:∃ a,a=T5 (I1 m) m.rooms h ([],[]):=⟨_,rfl⟩
 rw [← ha] at hal htl ⊢
 have c3:a7a (m.rooms,⟨a.1,w,h⟩):=⟨hl,by show a.1.length≤LM;omega⟩
 rw [b4 (e9M c3) (e9N c3)]
 simp only [f2j]
 obtain ⟨l,hle⟩:∃ l,l=m.rooms.filter (fun y=>!gvK ⟨a.1,w,h⟩ y):=⟨_,rfl⟩
 have hll:l.length≤m.rooms.length:=by rw [hle];exact List.length_filter_le _ _
 have hmem:∀ x,x∈l→x∈m.rooms:=fun x hx=>by rw [hle] at hx;exact (List.mem_filter.1 hx).1
 rw [← hle]
 try simp only [i6,Nat.le_refl,decide_true,Bool.and_self,Bool.and_true,gdt]
 have hst:I8 (I1 m) m h w m a l l.length (atL Rm.cs l) 0=(fun i:Nat=>I8 (I1 m) m h w m a l l.length (atL Rm.cs (gvA (a1v h w) l i)) (i:Nat)) 0:=rfl
 rw [hst,v5 l.length (fun i:Nat=>I8 (I1 m) m h w m a l l.length (atL Rm.cs (gvA (a1v h w) l i)) (i:Nat)) (a4E (I1 m) m h w m a l l.length (atL Rm.cs (gvA (a1v h w) l l.length)) l.length) 0 (fun i K hi=>?_) (fun K=>?_) _ (by omega)]
 ·have s1:(m.log.length+a.2.length)*8≤70368744177664:=by omega
  have s2:m.log.length+a.2.length≤70368744177664:=by omega
  rw [b8q]
  simp only [f4,i6,Nat.le_refl,s1,s2,G8,a4n,U5,e9P,oR,oT,Ml.cs,l7,List.length_map,List.length_append]
  rfl
 ·have hx0:=List.getElem?_eq_getElem hi
  obtain ⟨x,hxe⟩:∃ x,x=l[i]:=⟨_,rfl⟩
  rw [← hxe] at hx0
  have hx:(gvA (a1v h w) l i)[i]?=some x:=by rw [e9O _ hi,hx0]
  have hk:=(h1.2 _ (hmem _ (List.mem_of_getElem? hx0))).1.1
  have c4:a6W (x.kids,h):=hk
  have w1:IntKind.i64.wrap ((i:Int)+1)=((i+1:Nat):Int):=o3 (by omega)
  rw [e6h _ hx0]
  rw [b0q]
  simp only [f4,hi,i6,Nat.le_refl,d6 hx,Rm.cs,w1,c7r]
  by_cases e1:x.h=h
  ·simp only [e1,decide_true,cond_true]
   rw [c7q e1,← e6j hx]
   unfold ptF
   rfl
  ·simp only [e1,decide_false,cond_false]
   cases w with
   | false =>
    simp only [cond_false]
    rw [c3e e1,cond_false,e6i hx]
   | true =>
    simp only [cond_true]
    rw [b4 (e9u c4) (e9v c4)]
    simp only [f1Q,f4,i6,Nat.le_refl]
    rw [c3e e1,cond_true,a3w,w6 (y:={ x with kids:=x.kids.filter (fun y=>!decide (y=h)) }) hx rfl (by decide:4 < 11)]
 ·rw [b0q]
  simp only [p8,Nat.lt_irrefl,decide_false,cond_false]
theorem d3c:d8 prog c0j c0f:=g8 b0S fun x hx =>
 b9 (φ:=(b3 [(P6,P5),(a0E,a0D),(b0p,b0o),(b0g,b0f),(a1Z,a1Y (I1 x.1))])) (a9 a5J (a9 b9A (a9 f2l (a9 f1T (a9 (e7g (I1 x.1)) b5))))) d9 (kp:=U7) (n:=x.1.rooms.length+1) func90 (c:=d3 Z7) (by kernel_rfl) (c5h x.1 x.2.1 x.2.2 hx) (b8 (by kernel_rfl))
end Go.Mach.F
namespace Go.Mach.F
open Go Go.Mach Go.Proofs.Tryz
theorem d6x {rs:List Rm} {r:Rm} (h:r∈rs):¬ rof rs r.h < 0:=by
 rcases c4W rs r.h with ⟨i,e,_⟩ | ⟨_,hn⟩
 ·rw [e]
  omega
 ·obtain ⟨j,hj,e⟩:=List.getElem_of_mem h
  refine absurd ?_ (hn j)
  rw [List.getElem?_eq_getElem hj,e]
  rfl
theorem c0l (rs:List Rm) (y:Hd):∀ (n:Nat) (h:Hd) (a:List Hd × List Int),y∈a.1→y∈(T5 n rs h a).1
 | 0,_,_,hy=>hy
 | n+1,h,a,hy=>by
  unfold T5
  cases a1q a.1 h with
  | true=>exact hy
  | false =>
   rw [cond_false]
   cases decide (rof rs h < 0) with
   | true=>exact List.mem_append_left _ hy
   | false =>
    rw [cond_false]
    exact a5R (fun b:List Hd × List Int=>y∈b.1) _ _ _ (List.mem_append_left _ hy) fun b x _ hb=>c0l rs y n x b hb
theorem e6k (rs:List Rm) (n:Nat) (h:Hd) (a:List Hd × List Int):h∈(T5 (n+1) rs h a).1:=by
 by_cases h1:h∈a.1
 ·exact c0l rs h (n+1) h a h1
 ·unfold T5 a1q
  rw [decide_eq_false h1,cond_false]
  cases decide (rof rs h < 0) with
  | true=>simp
  | false =>
   rw [cond_false]
   exact a5R (fun b:List Hd × List Int=>h∈b.1) _ _ _ (by simp) fun b x _ hb=>c0l rs h n x b hb
/-- A room behind the reference's give. -/
def sgR (g:List Hd) (h:Hd) (w:Bool) (x:Rm):Option Rm:=bif decide (x.h=h)&&!w then some ⟨x.h,x.up,[],IntKind.i64.wrap (x.ep+1),0,false,0,[],[]⟩ else bif decide (x.h∈g) then none else some (bif w then { x with kids:=x.kids.filter (fun y=>!decide (y=h)) } else x)
def mv2 (f:Nat→Nat→T) (i:Nat):Nat→Nat→T:=b7 i 10 T.hole (b7 i 9 T.hole f)
theorem e9Q {f:Nat→Nat→T} {j j' k:Nat} (h:j'≠j):mv2 f j j' k=f j' k:=by
 unfold mv2
 rw [b6m h,b6m h]
def sgF (g:List Hd) (h:Hd) (w:Bool) (l:List Rm):Nat→Nat→Nat→T
 | 0=>atL Rm.cs l
 | i+1=>match l[i]? with
  | some x=>bif decide (x.h=h)&&!w then sgF g h w l i else bif decide (x.h∈g) then sgF g h w l i else bif w then mv2 (sgF g h w l i) i else mvF (sgF g h w l i) i
  | none=>sgF g h w l i
theorem d3d (g:List Hd) (h:Hd) (w:Bool) {l:List Rm} {i:Nat} {x:Rm} (hx:l[i]?=some x):sgF g h w l (i+1)=bif decide (x.h=h)&&!w then sgF g h w l i else bif decide (x.h∈g) then sgF g h w l i else bif w then mv2 (sgF g h w l i) i else mvF (sgF g h w l i) i:=by
 simp only [sgF,hx]
theorem e2K (g:List Hd) (h:Hd) (w:Bool) (l:List Rm):∀ i j k,i≤j→sgF g h w l i j k=atL Rm.cs l j k
 | 0,_,_,_=>rfl
 | i+1,j,k,hj=>by
  have ih:=e2K g h w l i j k (by omega)
  cases hx:l[i]? with
  | none=>simp only [sgF,hx];exact ih
  | some x =>
   rw [d3d g h w hx]
   cases (decide (x.h=h)&&!w) with
   | true=>exact ih
   | false =>
    cases decide (x.h∈g) with
    | true=>exact ih
    | false =>
     cases w with
     | true=>simp only [cond_true,cond_false];rw [e9Q (by omega)];exact ih
     | false=>simp only [cond_false];rw [b6n (by omega)];exact ih
def sgO (g:List Hd) (h:Hd) (w:Bool) (l:List Rm) (i:Nat):List Rm:=(l.take i).filterMap (sgR g h w)
theorem e6l (g:List Hd) (h:Hd) (w:Bool) {l:List Rm} {i:Nat} {x:Rm} (hx:l[i]?=some x):sgO g h w l (i+1)=sgO g h w l i ++ (sgR g h w x).toList:=by
 unfold sgO
 rw [List.take_add_one,hx,List.filterMap_append]
 cases hs:sgR g h w x <;> simp [hs]
theorem e9R (g:List Hd) (h:Hd) (w:Bool) (l:List Rm) (i:Nat):(sgO g h w l i).length≤l.length:=by
 unfold sgO
 refine Nat.le_trans (List.length_filterMap_le _ _) ?_
 rw [List.length_take]
 omega
theorem e7r (a g:List Hd) (h:Hd) (w:Bool):∀ (l:List Rm),(∀ x,x∈l→(x.h∈a↔x.h∈g)∧(x.h=h→x.h∈g))→l.filterMap (sgR g h w)=(l.filter (fun r=>!gvK ⟨a,w,h⟩ r)).map (a1v h w)
 | [],_=>rfl
 | x::l,hh=>by
  have ih:=e7r a g h w l fun y hy=>hh y (List.mem_cons_of_mem _ hy)
  obtain ⟨h1,h2⟩:=hh x List.mem_cons_self
  rw [List.filterMap_cons,List.filter_cons]
  by_cases e1:x.h=h
  ·have e2:=h2 e1
   have e3:=h1.2 e2
   cases w with
   | false =>
    have f1:sgR g h false x=some (a1v h false x):=by
     unfold sgR a1v
     simp [e1]
    have f2:gvK ⟨a,false,h⟩ x=false:=by
     unfold gvK
     simp [e1]
    rw [f1,f2,ih]
    rfl
   | true =>
    have f1:sgR g h true x=none:=by
     unfold sgR
     rw [decide_eq_true e2]
     simp
    have f2:gvK ⟨a,true,h⟩ x=true:=by
     unfold gvK a1q
     rw [decide_eq_true e3]
     rfl
    rw [f1,f2]
    exact ih
  ·by_cases e2:x.h∈g
   ·have e3:=h1.2 e2
    have f1:sgR g h w x=none:=by
     unfold sgR
     rw [decide_eq_true e2,decide_eq_false e1]
     rfl
    have f2:gvK ⟨a,w,h⟩ x=true:=by
     unfold gvK a1q
     rw [decide_eq_true e3,decide_eq_false e1]
     simp
    rw [f1,f2]
    exact ih
   ·have e3:x.h ∉ a:=fun e=>e2 (h1.1 e)
    have f1:sgR g h w x=some (a1v h w x):=by
     unfold sgR a1v
     rw [decide_eq_false e2,decide_eq_false e1]
     rfl
    have f2:gvK ⟨a,w,h⟩ x=false:=by
     unfold gvK a1q
     rw [decide_eq_false e3]
     rfl
    rw [f1,f2,ih]
    rfl
theorem e6m {R:Type} (a w:Bool) (A B:R):(bif a then (bif !w then A else B) else B)=bif a&&!w then A else B:=by cases a <;> cases w <;> rfl
theorem e6n {α:Type} (p:α→Bool) {l:List α} {i:Nat} {x:α} (hx:l[i]?=some x):(l.take (i+1)).filter p=bif p x then (l.take i).filter p ++ [x] else (l.take i).filter p:=a5Q p hx
theorem c5i (m:Ml) (h:Hd) (w:Bool) (h0:H7 (m,h,w)):body prog (b3 [(C8,C7),(L0,K9),(F4,F3),(K1,K0 (I1 m))]) B3 (m.rooms.length+(allK m.rooms).length+1) C9 (E7 (m,h,w))=some ([oR (Z6 (m,h,w)).1.cs,oT (.int .i64 (Z6 (m,h,w)).2)],[nul,nul,nul]):=by
 have hlm:=lm
 obtain ⟨⟨h1,h2⟩,h3,h4⟩:(ok_RmS m.rooms∧m6 m.log)∧(allK m.rooms).length < LM∧cntL (fun r=>r.tags.length) m.rooms≤LM:=⟨⟨h0.1,h0.2.1⟩,h0.2.2.1,h0.2.2.2⟩
 have hl:m.rooms.length≤LM:=h1.1
 have hlog:m.log.length≤LM:=h2
 have c0:p9 m:=⟨h1,h2⟩
 have c1:Q2 (m,h):=hl
 unfold E7 Z6 b2M
 dsimp only
 rw [c7p]
 try simp only [l7,Ml.cs,Hd.cs]
 rw [b4 (W7 c0) (W8 c0)]
 simp only [a0Q,f4,i6,Nat.le_refl]
 rw [b4 (b6a c1) (b6b c1)]
 simp only [b9z,w7,A1]
 by_cases e:(rsv m h).2=0
 case neg =>
  simp only [e,decide_false,Bool.not_false,cond_true,cond_false]
  rfl
 simp only [e,decide_true,Bool.not_true,cond_true,cond_false]
 have hm0:MetOk m.rooms h []:=⟨List.nodup_nil,fun x hx=>by cases hx⟩
 have c2:a2B (I1 m) (m,h,[]):=⟨h1,h3,h4,⟨h,hm0,.inl rfl⟩,by simp [I1]⟩
 have r0:T.arr 2 0 (i4 [])=T.arr 2 ([]:List Hd).length (atL Hd.cs []):=by rw [a2h Hd.cs];rfl
 rw [r0,b4 (d6k c2) (d6l c2)]
 have hgp:=b2G m.rooms h (I1 m) h ([],[]) 0 ⟨hm0,Nat.zero_le _,Nat.zero_le _⟩ (.inl rfl)
 have htl:=Nat.le_trans hgp.2.1 (b1q m.rooms hgp.1.nd)
 have htp:=b9S m.rooms h (I1 m) h [] hm0 (.inl rfl)
 have hbl:=htp.1.len
 obtain ⟨q1,q2⟩:=d2D m.rooms (I1 m) h [] [] [] fun _ _=>Iff.rfl
 have hin:h∈(T5 (I1 m) m.rooms h ([],[])).1:=e6k m.rooms _ h _
 simp only [b0h]
 obtain ⟨a,ha⟩:∃ a,a=T5 (I1 m) m.rooms h ([],[]):=⟨_,rfl⟩
 obtain ⟨b,hb⟩:∃ b,b=P8 (I1 m) m.rooms h []:=⟨_,rfl⟩
 rw [← ha] at htl hin q1 q2 ⊢
 rw [← hb] at hbl q1 q2 ⊢
 rw [List.nil_append] at q1
 have heq:sgO b.2 h w m.rooms m.rooms.length=(m.rooms.filter (fun r=>!gvK ⟨a.1,w,h⟩ r)).map (a1v h w):=by
  unfold sgO
  rw [List.take_length]
  refine e7r a.1 b.2 h w m.rooms fun x hx=>⟨q2 x.h (d6x hx),fun e=>?_⟩
  exact (q2 x.h (d6x hx)).1 (by rw [e];exact hin)
 rw [← heq,q1]
 rw [q1] at htl
 obtain ⟨l,hle⟩:∃ l,l=m.rooms:=⟨_,rfl⟩
 have hst:B8 (I1 m) m h w m b m.rooms.length (atL Rm.cs m.rooms) 0 (i4 []) 0=(fun i:Nat=>B8 (I1 m) m h w m b m.rooms.length (sgF b.2 h w m.rooms i) (sgO b.2 h w m.rooms i).length (atL Rm.cs (sgO b.2 h w m.rooms i)) (i:Nat)) 0:=by
  rw [a2h Rm.cs]
  rfl
 rw [hst,v5 m.rooms.length (fun i:Nat=>B8 (I1 m) m h w m b m.rooms.length (sgF b.2 h w m.rooms i) (sgO b.2 h w m.rooms i).length (atL Rm.cs (sgO b.2 h w m.rooms i)) (i:Nat)) (a4G (I1 m) m h w m b m.rooms.length (sgF b.2 h w m.rooms m.rooms.length) (sgO b.2 h w m.rooms m.rooms.length).length (atL Rm.cs (sgO b.2 h w m.rooms m.rooms.length)) m.rooms.length) 0 (fun i K hi=>?_) (fun K=>?_) _ (by omega)]
 ·have s1:(m.log.length+b.1.length)*8≤70368744177664:=by omega
  have s2:m.log.length+b.1.length≤70368744177664:=by omega
  rw [b8s]
  simp only [f4,i6,Nat.le_refl,s1,s2,G8,a4n,U5,oR,oT,Ml.cs,l7,List.length_append]
  rfl
 ·have hx0:=List.getElem?_eq_getElem hi
  obtain ⟨x,hxe⟩:∃ x,x=m.rooms[i]:=⟨_,rfl⟩
  rw [← hxe] at hx0
  have hxm:=List.mem_of_getElem? hx0
  have hA:∀ k,sgF b.2 h w m.rooms i i k=(Rm.cs x).getD k .hole:=fun k=>by rw [e2K _ _ _ _ i i k (Nat.le_refl _),d6 hx0]
  have c4:Z4 (b.2,x.h):=by show b.2.length≤LM;omega
  have w1:IntKind.i64.wrap ((i:Int)+1)=((i+1:Nat):Int):=o3 (by omega)
  have hol:=e9R b.2 h w m.rooms i
  have s1:((sgO b.2 h w m.rooms i).length+1)*136≤70368744177664:=by omega
  have s2:(sgO b.2 h w m.rooms i).length+1≤70368744177664:=by omega
  rw [d3d _ _ _ hx0,e6l _ _ _ hx0]
  rw [b0s]
  simp only [f4,hi,i6,Nat.le_refl,a7W (rfl:Nat.beq 9 4=false),a7W (rfl:Nat.beq 10 9=false),a7W (rfl:Nat.beq 10 4=false),hA,Rm.cs,w1,c7r,s1,s2,G8]
  rw [b4 (d2x c4) (d2y c4)]
  simp only [d6h,a1q]
  rw [e6m]
  unfold sgR
  by_cases e0:(decide (x.h=h)&&!w)=true
  ·simp only [e0,cond_true,Option.toList_some,List.length_append,List.length_singleton]
   rw [← c9F]
   rfl
  ·have e0:(decide (x.h=h)&&!w)=false:=by simpa using e0
   simp only [e0,cond_false]
   by_cases e2:x.h∈b.2
   ·simp only [e2,decide_true,cond_true,Option.toList_none,List.append_nil]
   ·simp only [e2,decide_false,cond_false,Option.toList_some,List.length_append,List.length_singleton]
    cases w with
    | false =>
     simp only [cond_false]
     rw [← c9F]
     rfl
    | true =>
     simp only [cond_true]
     have hkl:=c2U hxm
     have hi1:I9 (I1 m) m h true m b m.rooms.length (sgF b.2 h true m.rooms i) (sgO b.2 h true m.rooms i).length (atL Rm.cs (sgO b.2 h true m.rooms i)) (i:Nat) 0 (i4 []) 0=(fun j:Nat=>I9 (I1 m) m h true m b m.rooms.length (sgF b.2 h true m.rooms i) (sgO b.2 h true m.rooms i).length (atL Rm.cs (sgO b.2 h true m.rooms i)) (i:Nat) ((x.kids.take j).filter (fun y=>!decide (y=h))).length (atL Hd.cs ((x.kids.take j).filter (fun y=>!decide (y=h)))) (j:Nat)) 0:=by
      rw [a2h Hd.cs]
      rfl
     rw [hi1,v5 x.kids.length (fun j:Nat=>I9 (I1 m) m h true m b m.rooms.length (sgF b.2 h true m.rooms i) (sgO b.2 h true m.rooms i).length (atL Rm.cs (sgO b.2 h true m.rooms i)) (i:Nat) ((x.kids.take j).filter (fun y=>!decide (y=h))).length (atL Hd.cs ((x.kids.take j).filter (fun y=>!decide (y=h)))) (j:Nat)) (a4F (I1 m) m h true m b m.rooms.length (sgF b.2 h true m.rooms i) (sgO b.2 h true m.rooms i).length (atL Rm.cs (sgO b.2 h true m.rooms i)) (i:Nat) (x.kids.filter (fun y=>!decide (y=h))).length (atL Hd.cs (x.kids.filter (fun y=>!decide (y=h)))) x.kids.length) 3 (fun j K' hj=>?_) (fun K'=>?_) _ (by omega)]
     ·rw [b8r]
      simp only [f4,hi,i6,Nat.le_refl,a7W (rfl:Nat.beq 9 4=false),a7W (rfl:Nat.beq 10 9=false),a7W (rfl:Nat.beq 10 4=false),hA,Rm.cs,w1,s1,s2]
      rw [← c9F]
      rfl
     ·have hy0:=List.getElem?_eq_getElem hj
      obtain ⟨y,hye⟩:∃ y,y=x.kids[j]:=⟨_,rfl⟩
      rw [← hye] at hy0
      have w2:IntKind.i64.wrap ((j:Int)+1)=((j+1:Nat):Int):=o3 (by omega)
      have hfl:((x.kids.take j).filter (fun y=>!decide (y=h))).length≤j:=a8T (fun y=>!decide (y=h)) x.kids (Nat.le_of_lt hj)
      have s3:(((x.kids.take j).filter (fun y=>!decide (y=h))).length+1)*16≤70368744177664:=by omega
      have s4:((x.kids.take j).filter (fun y=>!decide (y=h))).length+1≤70368744177664:=by omega
      rw [b0r]
      simp only [f4,hi,hj,i6,Nat.le_refl,hA,Rm.cs,d6 hy0,Hd.cs,w2,c7r,s3,s4]
      rw [e6n _ hy0]
      by_cases e5:y=h
      ·simp only [e5,decide_true,Bool.not_true,cond_false]
      ·simp only [e5,decide_false,Bool.not_false,cond_true,d2E,U5,List.length_append,List.length_singleton]
     ·rw [b0r]
      simp only [f4,hA,Rm.cs,Nat.lt_irrefl,decide_false,cond_false,List.take_length]
 ·rw [b0s]
  simp only [p8,Nat.lt_irrefl,decide_false,cond_false]
theorem d3e:d8 prog c0k c0h:=g8 b0T fun x hx =>
 b9 (φ:=(b3 [(C8,C7),(L0,K9),(F4,F3),(K1,K0 (I1 x.1))])) (a9 a5K (a9 b9B (a9 d6i (a9 (e2i (I1 x.1)) b5)))) d9 (kp:=B3) (n:=x.1.rooms.length+(allK x.1.rooms).length+1) func76 (c:=d3 C9) (by kernel_rfl) (c5i x.1 x.2.1 x.2.2 hx) (b8 (by kernel_rfl))
end Go.Mach.F
namespace Go.Mach.F
open Go Go.Mach Go.Proofs.Tryz Go.IntKind
--=set_option maxRecDepth 100000
def u8 (k:Int):UInt8:=UInt8.ofNat (IntKind.u8.wrap k).toNat
def anC (c:Int):An:=⟨c,⟨0,0⟩,⟨⟨0,0⟩,0,0⟩,[],0,0,0⟩
def lse (m:Ml) (r:Rm):Int:=bif r.cur then i64.wrap (m.c.size - r.bump) else 0
def stt (m:Ml) (h:Hd):An:=bif decide ((rsv m h).2=0) then { anC 0 with b:=[u8 (rmJ m (rsv m h).1).chunks,u8 (rmJ m (rsv m h).1).things.length,u8 (rmJ m (rsv m h).1).tags.length,u8 (lse m (rmJ m (rsv m h).1))] } else anC (rsv m h).2
def d3f (h:Hd) (x:Ml × Int):Ml × An:=(x.1,bif decide (x.2=0) then { anC 0 with h:=h } else anC x.2)
def d3g (m:Ml) (h:Hd) (x:Ml × Int):Ml × An:=(x.1,bif decide (x.2=0) then { anC 0 with r:=⟨h,(rmJ m (rof m.rooms h)).ep,(rmJ m (rof m.rooms h)).things.length⟩ } else anC x.2)
def e6o (m:Ml) (x:List UInt8 × Int):Ml × An:=(m,{ anC x.2 with b:=x.1 })
def cdA (x:Ml × Int):Ml × An:=(x.1,anC x.2)
def ecl (m:Ml) (o:Op1) (a:An):Ml × An :=
 bif decide (o.kind=1) then d3f a.h (a5P m o.h a.h (!decide (a.code=4)))
 else bif decide (o.kind=2) then d3g m o.h (a0c m o.h o.n o.m (decide (a.code=6)))
 else bif decide (o.kind=3) then e6o m (erd m o.r o.n o.m)
 else bif decide (o.kind=4) then cdA (a9d m o.r o.n o.b)
 else bif decide (o.kind=5) then cdA (a8N m o.h o.n)
 else bif decide (o.kind=6) then cdA (b2M m o.h (decide (o.kind=7)))
 else bif decide (o.kind=7) then cdA (b2M m o.h (decide (o.kind=7)))
 else bif decide (o.kind=8) then (m,stt m o.h)
 else bif decide (o.kind=9) then (m,anC 0) else (m,anC 1)
def a7b (x:Ml × Hd):Prop:=x.1.rooms.length≤LM
def a2G (x:Ml × Hd):List Arg:=[aR x.1.cs,aR x.2.cs]
def c0m (x:Ml × Hd):An:=stt x.1 x.2
noncomputable def e2L:Ent:=ent [] a7b a2G (fun (x:An)=>erR 2 x.cs) c0m
theorem c1Z (x y:Ml × Hd) (h:a2G x=a2G y):x=y:=by
 obtain ⟨m1,h1⟩:=x
 obtain ⟨m2,h2⟩:=y
 simp only [a2G,List.cons.injEq,and_true,true_and] at h
 obtain ⟨e0,e1⟩:=h
 obtain rfl:=Ml.cs_ext (j6 e0)
 obtain rfl:=Hd.cs_ext (j6 e1)
 rfl
theorem e9S {m:Ml} {h:Hd} (h0:a7b (m,h)):dom a7b a2G [(wMl m),(wHd h)]=true:=i3 (ea:=a2G) (x:=(m,h)) h0
theorem e9T {m:Ml} {h:Hd} (h0:a7b (m,h)):inv a7b a2G [(wMl m),(wHd h)]=(m,h):=g9 c1Z (x:=(m,h)) h0
theorem f2m (m:Ml) (h:Hd):c0m (m,h)=stt m h:=rfl
def e2M:Nat:=91
noncomputable abbrev d3h:Func:=f91
def c7s:List (Nat × List Nat):=[(0,kq [5,7,9,34,36,68,76,84,88,90,92]),(1,kq [5,9,10,12,34,36,68,76,84,88,90,92]),(2,kq [5,9,10,12,32,34,36,68,76,84,88,90,92]),(3,kq [9,34,36,68,76,84,88,90,92]),(4,kq [5,9,15,16,34,36,38,40,42,44,46,68,76,84,88,90,92]),(5,kq [5,9,15,16,34,36,38,40,42,44,46,50,68,76,84,88,90,92]),(6,kq [5,9,15,16,34,36,38,40,42,44,46,68,76,84,88,90,92]),(7,kq [9,34,36,68,76,84,88,90,92])]
theorem e6p (m:Ml) (h:Hd) (n:Nat):body prog (b3 [(a0E,a0D)]) c7s n d3h [aR m.cs,aR h.cs]=(d7 Q1 T9 (a4T) [(wMl m),(wHd h)] fun (r1:Int × Int)=>bif r1.2 != 0 then some ([(true,[.tr true (T.int i64 r1.2),.tr true (T.int i64 0),.tr true (T.int i64 0),.tr true (T.int i64 0),.tr true (T.int i64 0),.tr true (T.int i64 0),.tr true (T.int i64 0),.tr true (.arr (1) (0) (fun x x_1=>T.hole)),.tr true (T.int i64 0),.tr true (T.int i64 0),.tr true (T.int i64 0)])],(nu 2)) else gd (decide (0≤r1.1)&&(r1.1.toNat.blt m.2.length&&true))<|gd (T.isI i64 (atL Rm.cs m.2 r1.1.toNat 0)&&T.isI i64 (atL Rm.cs m.2 r1.1.toNat 1)&&T.isI i64 (atL Rm.cs m.2 r1.1.toNat 2)&&T.isI i64 (atL Rm.cs m.2 r1.1.toNat 3)&&((atL Rm.cs m.2 r1.1.toNat 4).isArr&&(atL Rm.cs m.2 r1.1.toNat 4).wd.beq 2)&&T.isI i64 (atL Rm.cs m.2 r1.1.toNat 5)&&T.isI i64 (atL Rm.cs m.2 r1.1.toNat 6)&&(atL Rm.cs m.2 r1.1.toNat 7).isB&&T.isI i64 (atL Rm.cs m.2 r1.1.toNat 8)&&((atL Rm.cs m.2 r1.1.toNat 9).isArr&&(atL Rm.cs m.2 r1.1.toNat 9).wd.beq 1)&&((atL Rm.cs m.2 r1.1.toNat 10).isArr&&(atL Rm.cs m.2 r1.1.toNat 10).wd.beq 1))<|bif (atL Rm.cs m.2 r1.1.toNat 7).toB then some ([(true,[.tr true (T.int i64 0),.tr true (T.int i64 0),.tr true (T.int i64 0),.tr true (T.int i64 0),.tr true (T.int i64 0),.tr true (T.int i64 0),.tr true (T.int i64 0),.tr true (.arr (1) (4) (i4 [[T.int IntKind.u8 (IntKind.u8.wrap (atL Rm.cs m.2 r1.1.toNat 6).toI)],[T.int IntKind.u8 (IntKind.u8.wrap (↑(atL Rm.cs m.2 r1.1.toNat 9).ln:Int))],[T.int IntKind.u8 (IntKind.u8.wrap (↑(atL Rm.cs m.2 r1.1.toNat 10).ln:Int))],[T.int IntKind.u8 (IntKind.u8.wrap (i64.wrap (m.c.2 - (atL Rm.cs m.2 r1.1.toNat 8).toI)))]])),.tr true (T.int i64 0),.tr true (T.int i64 0),.tr true (T.int i64 0)])],(nu 2)) else some ([(true,[.tr true (T.int i64 0),.tr true (T.int i64 0),.tr true (T.int i64 0),.tr true (T.int i64 0),.tr true (T.int i64 0),.tr true (T.int i64 0),.tr true (T.int i64 0),.tr true (.arr (1) (4) (i4 [[T.int IntKind.u8 (IntKind.u8.wrap (atL Rm.cs m.2 r1.1.toNat 6).toI)],[T.int IntKind.u8 (IntKind.u8.wrap (↑(atL Rm.cs m.2 r1.1.toNat 9).ln:Int))],[T.int IntKind.u8 (IntKind.u8.wrap (↑(atL Rm.cs m.2 r1.1.toNat 10).ln:Int))],[T.int IntKind.u8 0]])),.tr true (T.int i64 0),.tr true (T.int i64 0),.tr true (T.int i64 0)])],(nu 2))):=by kernel_rfl
def a7c (x:Ml × Hd):Prop:=x.1.rooms.length≤LM
def a2H (x:Ml × Hd):List Arg:=[aR x.1.cs,aR x.2.cs]
def c0n (x:Ml × Hd):An:=stt x.1 x.2
noncomputable def e2N:Ent:=ent [] a7c a2H (fun (x:An)=>erR 2 x.cs) c0n
theorem c2a (x y:Ml × Hd) (h:a2H x=a2H y):x=y:=by
 obtain ⟨m1,h1⟩:=x
 obtain ⟨m2,h2⟩:=y
 simp only [a2H,List.cons.injEq,and_true,true_and] at h
 obtain ⟨e0,e1⟩:=h
 obtain rfl:=Ml.cs_ext (j6 e0)
 obtain rfl:=Hd.cs_ext (j6 e1)
 rfl
theorem e9U {m:Ml} {h:Hd} (h0:a7c (m,h)):dom a7c a2H [(wMl m),(wHd h)]=true:=i3 (ea:=a2H) (x:=(m,h)) h0
theorem e9V {m:Ml} {h:Hd} (h0:a7c (m,h)):inv a7c a2H [(wMl m),(wHd h)]=(m,h):=g9 c2a (x:=(m,h)) h0
theorem f2n (m:Ml) (h:Hd):c0n (m,h)=stt m h:=rfl
def e2O:Nat:=77
noncomputable abbrev d3i:Func:=f77
def c7t:List (Nat × List Nat):=[(0,kq [5,7,9,34,36,68,76,84,88,90,92]),(1,kq [5,9,10,12,34,36,68,76,84,88,90,92]),(2,kq [5,9,10,12,32,34,36,68,76,84,88,90,92]),(3,kq [9,34,36,68,76,84,88,90,92]),(4,kq [5,9,15,34,36,38,40,42,44,46,68,76,84,88,90,92]),(5,kq [5,9,15,16,34,36,38,40,42,44,46,68,76,84,88,90,92]),(6,kq [5,9,15,16,34,36,38,40,42,44,46,50,68,76,84,88,90,92]),(7,kq [5,9,15,16,34,36,38,40,42,44,46,68,76,84,88,90,92]),(8,kq [9,34,36,68,76,84,88,90,92])]
theorem e6q (m:Ml) (h:Hd) (n:Nat):body prog (b3 [(L0,K9)]) c7t n d3i [aR m.cs,aR h.cs]=(d7 Q2 U0 (a4U) [(wMl m),(wHd h)] fun (r1:Int × Int)=>bif r1.2 != 0 then some ([(true,[.tr true (T.int i64 r1.2),.tr true (T.int i64 0),.tr true (T.int i64 0),.tr true (T.int i64 0),.tr true (T.int i64 0),.tr true (T.int i64 0),.tr true (T.int i64 0),.tr true (.arr (1) (0) (fun x x_1=>T.hole)),.tr true (T.int i64 0),.tr true (T.int i64 0),.tr true (T.int i64 0)])],(nu 2)) else gd (decide (0≤r1.1)&&(r1.1.toNat.blt m.2.length&&true))<|gd (T.isI i64 (atL Rm.cs m.2 r1.1.toNat 0)&&T.isI i64 (atL Rm.cs m.2 r1.1.toNat 1)&&T.isI i64 (atL Rm.cs m.2 r1.1.toNat 2)&&T.isI i64 (atL Rm.cs m.2 r1.1.toNat 3)&&((atL Rm.cs m.2 r1.1.toNat 4).isArr&&(atL Rm.cs m.2 r1.1.toNat 4).wd.beq 2)&&T.isI i64 (atL Rm.cs m.2 r1.1.toNat 5)&&T.isI i64 (atL Rm.cs m.2 r1.1.toNat 6)&&(atL Rm.cs m.2 r1.1.toNat 7).isB&&T.isI i64 (atL Rm.cs m.2 r1.1.toNat 8)&&((atL Rm.cs m.2 r1.1.toNat 9).isArr&&(atL Rm.cs m.2 r1.1.toNat 9).wd.beq 1)&&((atL Rm.cs m.2 r1.1.toNat 10).isArr&&(atL Rm.cs m.2 r1.1.toNat 10).wd.beq 1))<|bif (atL Rm.cs m.2 r1.1.toNat 7).toB then some ([(true,[.tr true (T.int i64 0),.tr true (T.int i64 0),.tr true (T.int i64 0),.tr true (T.int i64 0),.tr true (T.int i64 0),.tr true (T.int i64 0),.tr true (T.int i64 0),.tr true (.arr (1) (4) (i4 [[T.int IntKind.u8 (IntKind.u8.wrap (atL Rm.cs m.2 r1.1.toNat 6).toI)],[T.int IntKind.u8 (IntKind.u8.wrap (↑(atL Rm.cs m.2 r1.1.toNat 9).ln:Int))],[T.int IntKind.u8 (IntKind.u8.wrap (↑(atL Rm.cs m.2 r1.1.toNat 10).ln:Int))],[T.int IntKind.u8 (IntKind.u8.wrap (i64.wrap (m.c.2 - (atL Rm.cs m.2 r1.1.toNat 8).toI)))]])),.tr true (T.int i64 0),.tr true (T.int i64 0),.tr true (T.int i64 0)])],(nu 2)) else some ([(true,[.tr true (T.int i64 0),.tr true (T.int i64 0),.tr true (T.int i64 0),.tr true (T.int i64 0),.tr true (T.int i64 0),.tr true (T.int i64 0),.tr true (T.int i64 0),.tr true (.arr (1) (4) (i4 [[T.int IntKind.u8 (IntKind.u8.wrap (atL Rm.cs m.2 r1.1.toNat 6).toI)],[T.int IntKind.u8 (IntKind.u8.wrap (↑(atL Rm.cs m.2 r1.1.toNat 9).ln:Int))],[T.int IntKind.u8 (IntKind.u8.wrap (↑(atL Rm.cs m.2 r1.1.toNat 10).ln:Int))],[T.int IntKind.u8 0]])),.tr true (T.int i64 0),.tr true (T.int i64 0),.tr true (T.int i64 0)])],(nu 2))):=by kernel_rfl
def d6y:Nat:=72
noncomputable abbrev d6z:Func:=f72
def e6r:List (Nat × List Nat):=[(0,kq [4,7,9,13,15,17,22,40,42,50,52,54,64,82,84]),(1,kq [9,13,15,17,18,22,40,42,50,52,54,64,82,84]),(2,kq [9,13,15,17,18,22,40,42,48,50,52,54,64,82,84]),(3,kq [13,15,17,22,40,42,50,52,54,64,82,84]),(4,kq [9,13,15,17,21,22,40,42,50,52,54,62,64,82,84]),(5,kq [13,15,17,22,40,42,50,52,54,64,82,84])]
noncomputable def d6A:Ent:=inl [] prog (b3 [(b7X,b7W),(c8d,c8c)]) e6r 0 d6z
theorem e9W:d8 prog d6y d6A:=p6 (a9 c9k (a9 e1h b5)) d9 (c:=d3 d6z) func72 (by kernel_rfl) (b8 (by kernel_rfl))
def a7d (x:Ml × Op1 × An):Prop:=((ok_RmS x.1.rooms∧m6 x.1.log)∧o9 x.2.1.b)∧(allK x.1.rooms).length < LM∧cntL (fun r=>r.tags.length) x.1.rooms≤LM
def a2I (x:Ml × Op1 × An):List Arg:=[aR x.1.cs,aR x.2.1.cs,aR x.2.2.cs]
def b6o (x:Ml × Op1 × An):Ml × An:=ecl x.1 x.2.1 x.2.2
noncomputable def e2P:Ent:=ent [] a7d a2I (fun (x:Ml × An)=>([oR x.1.cs,oR x.2.cs],[nul,nul,nul])) b6o
theorem c2b (x y:Ml × Op1 × An) (h:a2I x=a2I y):x=y:=by
 obtain ⟨m1,o1,a1⟩:=x
 obtain ⟨m2,o2,a2⟩:=y
 simp only [a2I,List.cons.injEq,and_true,true_and] at h
 obtain ⟨e0,e1,e2⟩:=h
 obtain rfl:=Ml.cs_ext (j6 e0)
 obtain rfl:=Op1.cs_ext (j6 e1)
 obtain rfl:=An.cs_ext (j6 e2)
 rfl
theorem e9X {m:Ml} {o:Op1} {a:An} (h:a7d (m,o,a)):dom a7d a2I [(wMl m),(d7t o),(wAn a)]=true:=i3 (ea:=a2I) (x:=(m,o,a)) h
theorem e9Y {m:Ml} {o:Op1} {a:An} (h:a7d (m,o,a)):inv a7d a2I [(wMl m),(d7t o),(wAn a)]=(m,o,a):=g9 c2b (x:=(m,o,a)) h
theorem f2o (m:Ml) (o:Op1) (a:An):b6o (m,o,a)=ecl m o a:=rfl
def e2Q:Nat:=40
noncomputable abbrev d3j:Func:=f40
def c7u:List (Nat × List Nat):=[(0,kq [7,9,11,13,15,17,19,24,26,38,56,58,80,102,104,184,200,202,212,224,226,238,252,254,270,276,278]),(1,kq [7,9,11,13,15,17,19,24,26,38,56,58,80,102,104,184,200,202,212,224,226,238,252,254,270,276,278]),(2,kq [7,9,11,13,15,17,19,24,26,30,38,56,58,80,102,104,184,200,202,212,224,226,238,252,254,270,276,278]),(3,kq [13,15,17,19,24,26,38,56,58,80,102,104,184,200,202,212,224,226,238,252,254,270,276,278]),(4,kq [7,9,11,13,15,17,19,24,26,30,34,38,56,58,80,102,104,184,200,202,212,224,226,238,252,254,270,276,278]),(5,kq [11,13,15,17,19,24,26,38,56,58,80,102,104,184,200,202,212,224,226,238,252,254,270,276,278]),(6,kq [11,13,15,17,19,24,26,38,56,58,68,80,102,104,184,200,202,212,224,226,238,252,254,270,276,278]),(7,kq [13,15,17,19,24,26,38,56,58,80,102,104,184,200,202,212,224,226,238,252,254,270,276,278]),(8,kq [7,9,11,13,15,17,19,24,26,30,38,56,58,76,80,102,104,184,200,202,212,224,226,238,252,254,270,276,278]),(9,kq [7,9,13,15,17,19,24,26,38,56,58,80,102,104,184,200,202,212,224,226,238,252,254,270,276,278]),(10,kq [7,9,13,15,17,19,24,26,38,56,58,80,102,104,114,184,200,202,212,224,226,238,252,254,270,276,278]),(11,kq [7,9,13,15,17,19,21,24,26,38,56,58,80,102,104,116,118,126,128,130,184,200,202,212,224,226,238,252,254,270,276,278]),(12,kq [13,15,17,19,24,26,38,56,58,80,102,104,184,200,202,212,224,226,238,252,254,270,276,278]),(13,kq [7,9,13,15,17,19,24,26,30,38,56,58,80,102,104,150,184,200,202,212,224,226,238,252,254,270,276,278]),(14,kq [13,15,17,19,24,26,38,56,58,80,102,104,184,200,202,212,224,226,238,252,254,270,276,278]),(15,kq [7,9,13,15,17,19,24,26,30,38,56,58,80,102,104,180,184,200,202,212,224,226,238,252,254,270,276,278]),(16,kq [13,15,17,19,24,26,38,56,58,80,102,104,184,200,202,212,224,226,238,252,254,270,276,278]),(17,kq [7,9,13,15,17,19,24,26,30,38,56,58,80,102,104,184,200,202,208,212,224,226,238,252,254,270,276,278]),(18,kq [13,15,17,19,24,26,38,56,58,80,102,104,184,200,202,212,224,226,238,252,254,270,276,278]),(19,kq [7,9,13,15,17,19,24,26,30,38,56,58,80,102,104,184,200,202,212,224,226,232,238,252,254,270,276,278]),(20,kq [7,9,13,15,17,19,24,26,30,38,56,58,80,102,104,184,200,202,212,224,226,232,238,252,254,270,276,278]),(21,kq [13,15,17,19,24,26,38,56,58,80,102,104,184,200,202,212,224,226,238,252,254,270,276,278]),(22,kq [7,9,13,15,17,19,24,26,30,38,56,58,80,102,104,184,200,202,212,224,226,238,252,254,260,270,276,278]),(23,kq [13,15,17,19,24,26,38,56,58,80,102,104,184,200,202,212,224,226,238,252,254,270,276,278]),(24,kq [13,15,17,19,24,26,38,56,58,80,102,104,184,200,202,212,224,226,238,252,254,270,272,276,278]),(25,kq [13,15,17,19,24,26,38,56,58,80,102,104,184,200,202,212,224,226,238,252,254,270,276,278])]
noncomputable abbrev e6s:Sems:=b3 [(P6,P5),(e1L,e1K),(b7V,b7U),(Q8,Q7),(b9Y,b9X),(b8d,b8c),(c1H,c1G),(c0j,c0f),(e2M,e2L)]
theorem e6t (m:Ml) (o:Op1) (a:An) (n:Nat):body prog e6s c7u n d3j [aR m.cs,aR o.cs,aR a.cs]=(d7 A9 F9 (Z2) [(wMl m)] fun (r1:Ml)=>gl r1.2.length<|gl r1.3.length<|bif o.1==1 then d7 a6O a2w (b6e) [(wMl m),(wHd o.h),(wHd a.h),(0,false,[C.tr false (T.bool (a.1 != 4))])] fun (r2:Ml × Int)=>gl r2.fst.2.length<|gl r2.fst.3.length<|bif r2.2==0 then gl r2.fst.2.length<|gl r2.fst.3.length<|gl r2.fst.2.length<|gl r2.fst.3.length<|some ([(oR (Ml.cs r2.fst)),(true,[.tr true (T.int i64 r2.2),.tr true (T.int i64 a.h.1),.tr true (T.int i64 a.h.2),.tr true (T.int i64 0),.tr true (T.int i64 0),.tr true (T.int i64 0),.tr true (T.int i64 0),.tr true (.arr (1) (0) (fun x x_1=>T.hole)),.tr true (T.int i64 0),.tr true (T.int i64 0),.tr true (T.int i64 0)])],(nu 3)) else gl r2.fst.2.length<|gl r2.fst.3.length<|gl r2.fst.2.length<|gl r2.fst.3.length<|some ([(oR (Ml.cs r2.fst)),(true,[.tr true (T.int i64 r2.2),.tr true (T.int i64 0),.tr true (T.int i64 0),.tr true (T.int i64 0),.tr true (T.int i64 0),.tr true (T.int i64 0),.tr true (T.int i64 0),.tr true (.arr (1) (0) (fun x x_1=>T.hole)),.tr true (T.int i64 0),.tr true (T.int i64 0),.tr true (T.int i64 0)])],(nu 3)) else bif o.1==2 then d7 L9 F5 (a0k) [(wMl m),(wHd o.h),(0,false,[C.tr false (T.int i64 o.4)]),(0,false,[C.tr false (T.int i64 o.5)]),(0,false,[C.tr false (T.bool (a.1==6))])] fun (r3:Ml × Int)=>gl r3.fst.2.length<|gl r3.fst.3.length<|bif r3.2==0 then d7 z3 B7 (W5) [(wMl m),(wHd o.h)] fun (r4:Int)=>gd (decide (0≤r4)&&(r4.toNat.blt m.2.length&&true))<|gd (T.isI i64 (atL Rm.cs m.2 r4.toNat 0)&&T.isI i64 (atL Rm.cs m.2 r4.toNat 1)&&T.isI i64 (atL Rm.cs m.2 r4.toNat 2)&&T.isI i64 (atL Rm.cs m.2 r4.toNat 3)&&((atL Rm.cs m.2 r4.toNat 4).isArr&&(atL Rm.cs m.2 r4.toNat 4).wd.beq 2)&&T.isI i64 (atL Rm.cs m.2 r4.toNat 5)&&T.isI i64 (atL Rm.cs m.2 r4.toNat 6)&&(atL Rm.cs m.2 r4.toNat 7).isB&&T.isI i64 (atL Rm.cs m.2 r4.toNat 8)&&((atL Rm.cs m.2 r4.toNat 9).isArr&&(atL Rm.cs m.2 r4.toNat 9).wd.beq 1)&&((atL Rm.cs m.2 r4.toNat 10).isArr&&(atL Rm.cs m.2 r4.toNat 10).wd.beq 1))<|gl r3.fst.2.length<|gl r3.fst.3.length<|gl r3.fst.2.length<|gl r3.fst.3.length<|some ([(oR (Ml.cs r3.fst)),(true,[.tr true (T.int i64 r3.2),.tr true (T.int i64 0),.tr true (T.int i64 0),.tr true (T.int i64 o.h.1),.tr true (T.int i64 o.h.2),.tr true (T.int i64 (atL Rm.cs m.2 r4.toNat 5).toI),.tr true (T.int i64 (↑(atL Rm.cs m.2 r4.toNat 9).ln:Int)),.tr true (.arr (1) (0) (fun x x_1=>T.hole)),.tr true (T.int i64 0),.tr true (T.int i64 0),.tr true (T.int i64 0)])],(nu 3)) else gl r3.fst.2.length<|gl r3.fst.3.length<|gl r3.fst.2.length<|gl r3.fst.3.length<|some ([(oR (Ml.cs r3.fst)),(true,[.tr true (T.int i64 r3.2),.tr true (T.int i64 0),.tr true (T.int i64 0),.tr true (T.int i64 0),.tr true (T.int i64 0),.tr true (T.int i64 0),.tr true (T.int i64 0),.tr true (.arr (1) (0) (fun x x_1=>T.hole)),.tr true (T.int i64 0),.tr true (T.int i64 0),.tr true (T.int i64 0)])],(nu 3)) else bif o.1==3 then d7 Q9 H4 (a1t) [(wMl m),(wRf o.r),(0,false,[C.tr false (T.int i64 o.4)]),(0,false,[C.tr false (T.int i64 o.5)])] fun (r5:List UInt8 × Int)=>gl r5.1.length<|gl r1.2.length<|gl r1.3.length<|gl r5.1.length<|gl r1.2.length<|gl r1.3.length<|gl r5.1.length<|some ([(oR (Ml.cs r1)),(true,[.tr true (T.int i64 r5.2),.tr true (T.int i64 0),.tr true (T.int i64 0),.tr true (T.int i64 0),.tr true (T.int i64 0),.tr true (T.int i64 0),.tr true (T.int i64 0),.tr true (.arr (1) (r5.1.length) (atL f5 r5.1)),.tr true (T.int i64 0),.tr true (T.int i64 0),.tr true (T.int i64 0)])],(nu 3)) else bif o.1==4 then d7 N0 F7 (a0m) [(wMl m),(wRf o.r),(0,false,[C.tr false (T.int i64 o.4)]),(0,false,[C.tr false (eL 1 f5 o.6)])] fun (r6:Ml × Int)=>gl r6.fst.2.length<|gl r6.fst.3.length<|gl r6.fst.2.length<|gl r6.fst.3.length<|gl r6.fst.2.length<|gl r6.fst.3.length<|some ([(oR (Ml.cs r6.fst)),(true,[.tr true (T.int i64 r6.2),.tr true (T.int i64 0),.tr true (T.int i64 0),.tr true (T.int i64 0),.tr true (T.int i64 0),.tr true (T.int i64 0),.tr true (T.int i64 0),.tr true (.arr (1) (0) (fun x x_1=>T.hole)),.tr true (T.int i64 0),.tr true (T.int i64 0),.tr true (T.int i64 0)])],(nu 3)) else bif o.1==5 then d7 T0 J5 (a2u) [(wMl m),(wHd o.h),(0,false,[C.tr false (T.int i64 o.4)])] fun (r7:Ml × Int)=>gl r7.fst.2.length<|gl r7.fst.3.length<|gl r7.fst.2.length<|gl r7.fst.3.length<|gl r7.fst.2.length<|gl r7.fst.3.length<|some ([(oR (Ml.cs r7.fst)),(true,[.tr true (T.int i64 r7.2),.tr true (T.int i64 0),.tr true (T.int i64 0),.tr true (T.int i64 0),.tr true (T.int i64 0),.tr true (T.int i64 0),.tr true (T.int i64 0),.tr true (.arr (1) (0) (fun x x_1=>T.hole)),.tr true (T.int i64 0),.tr true (T.int i64 0),.tr true (T.int i64 0)])],(nu 3)) else bif o.1==6 then d7 H6 E6 (Z5) [(wMl m),(wHd o.h),(0,false,[C.tr false (T.bool (o.1==7))])] fun (r8:Ml × Int)=>gl r8.fst.2.length<|gl r8.fst.3.length<|gl r8.fst.2.length<|gl r8.fst.3.length<|gl r8.fst.2.length<|gl r8.fst.3.length<|some ([(oR (Ml.cs r8.fst)),(true,[.tr true (T.int i64 r8.2),.tr true (T.int i64 0),.tr true (T.int i64 0),.tr true (T.int i64 0),.tr true (T.int i64 0),.tr true (T.int i64 0),.tr true (T.int i64 0),.tr true (.arr (1) (0) (fun x x_1=>T.hole)),.tr true (T.int i64 0),.tr true (T.int i64 0),.tr true (T.int i64 0)])],(nu 3)) else bif o.1==7 then d7 H6 E6 (Z5) [(wMl m),(wHd o.h),(0,false,[C.tr false (T.bool (o.1==7))])] fun (r9:Ml × Int)=>gl r9.fst.2.length<|gl r9.fst.3.length<|gl r9.fst.2.length<|gl r9.fst.3.length<|gl r9.fst.2.length<|gl r9.fst.3.length<|some ([(oR (Ml.cs r9.fst)),(true,[.tr true (T.int i64 r9.2),.tr true (T.int i64 0),.tr true (T.int i64 0),.tr true (T.int i64 0),.tr true (T.int i64 0),.tr true (T.int i64 0),.tr true (T.int i64 0),.tr true (.arr (1) (0) (fun x x_1=>T.hole)),.tr true (T.int i64 0),.tr true (T.int i64 0),.tr true (T.int i64 0)])],(nu 3)) else bif o.1==8 then d7 a7b a2G (c0m) [(wMl m),(wHd o.h)] fun (r10:An)=>gl r10.4.length<|gl r1.2.length<|gl r1.3.length<|gl r10.4.length<|gl r1.2.length<|gl r1.3.length<|gl r10.4.length<|some ([(oR (Ml.cs r1)),(oR (An.cs r10))],(nu 3)) else bif o.1==9 then gl r1.2.length<|gl r1.3.length<|gl r1.2.length<|gl r1.3.length<|some ([(oR (Ml.cs r1)),(true,[.tr true (T.int i64 0),.tr true (T.int i64 0),.tr true (T.int i64 0),.tr true (T.int i64 0),.tr true (T.int i64 0),.tr true (T.int i64 0),.tr true (T.int i64 0),.tr true (.arr (1) (0) (fun x x_1=>T.hole)),.tr true (T.int i64 0),.tr true (T.int i64 0),.tr true (T.int i64 0)])],(nu 3)) else gl r1.2.length<|gl r1.3.length<|gl r1.2.length<|gl r1.3.length<|some ([(oR (Ml.cs r1)),(true,[.tr true (T.int i64 1),.tr true (T.int i64 0),.tr true (T.int i64 0),.tr true (T.int i64 0),.tr true (T.int i64 0),.tr true (T.int i64 0),.tr true (T.int i64 0),.tr true (.arr (1) (0) (fun x x_1=>T.hole)),.tr true (T.int i64 0),.tr true (T.int i64 0),.tr true (T.int i64 0)])],(nu 3))):=by kernel_rfl
def a7e (x:Ml × Op1 × An):Prop:=((ok_RmS x.1.rooms∧m6 x.1.log)∧o9 x.2.1.b)∧(allK x.1.rooms).length < LM∧cntL (fun r=>r.tags.length) x.1.rooms≤LM∧ok_RmS (a0c x.1 x.2.1.h x.2.1.n x.2.1.m (decide (x.2.2.code=6))).1.rooms
def a2J (x:Ml × Op1 × An):List Arg:=[aR x.1.cs,aR x.2.1.cs,aR x.2.2.cs]
def b6p (x:Ml × Op1 × An):Ml × An:=ecl x.1 x.2.1 x.2.2
noncomputable def e2R:Ent:=ent [] a7e a2J (fun (x:Ml × An)=>([oR x.1.cs,oR x.2.cs],[nul,nul,nul])) b6p
theorem c2c (x y:Ml × Op1 × An) (h:a2J x=a2J y):x=y:=by
 obtain ⟨m1,o1,a1⟩:=x
 obtain ⟨m2,o2,a2⟩:=y
 simp only [a2J,List.cons.injEq,and_true,true_and] at h
 obtain ⟨e0,e1,e2⟩:=h
 obtain rfl:=Ml.cs_ext (j6 e0)
 obtain rfl:=Op1.cs_ext (j6 e1)
 obtain rfl:=An.cs_ext (j6 e2)
 rfl
theorem e9Z {m:Ml} {o:Op1} {a:An} (h:a7e (m,o,a)):dom a7e a2J [(wMl m),(d7t o),(wAn a)]=true:=i3 (ea:=a2J) (x:=(m,o,a)) h
theorem f0a {m:Ml} {o:Op1} {a:An} (h:a7e (m,o,a)):inv a7e a2J [(wMl m),(d7t o),(wAn a)]=(m,o,a):=g9 c2c (x:=(m,o,a)) h
theorem f2p (m:Ml) (o:Op1) (a:An):b6p (m,o,a)=ecl m o a:=rfl
def e2S:Nat:=33
noncomputable abbrev d3k:Func:=f33
def c7v:List (Nat × List Nat):=[(0,kq [7,9,11,13,15,17,20,26,36,54,56,64,68,70,86,88,90,118,120,122,124,130,146,148,156,168,170,180,194,196,204,212,218,220,222]),(1,kq [7,9,11,13,15,17,20,26,36,54,56,64,68,70,86,88,90,118,120,122,124,130,146,148,156,168,170,180,194,196,204,212,218,220,222]),(2,kq [7,9,11,13,15,17,18,20,26,36,54,56,64,68,70,86,88,90,118,120,122,124,130,146,148,156,168,170,180,194,196,204,212,218,220,222]),(3,kq [7,9,11,13,15,17,18,20,26,30,36,54,56,64,68,70,86,88,90,118,120,122,124,130,146,148,156,168,170,180,194,196,204,212,218,220,222]),(4,kq [7,9,11,13,15,17,18,20,26,30,32,36,54,56,64,68,70,86,88,90,118,120,122,124,130,146,148,156,168,170,180,194,196,204,212,218,220,222]),(5,kq [11,13,15,17,18,20,26,36,54,56,64,68,70,86,88,90,118,120,122,124,130,146,148,156,168,170,180,194,196,204,212,218,220,222]),(6,kq [11,13,15,17,18,20,26,36,54,56,62,64,68,70,86,88,90,118,120,122,124,130,146,148,156,168,170,180,194,196,204,212,218,220,222]),(7,kq [13,15,17,20,26,36,54,56,64,68,70,86,88,90,118,120,122,124,130,146,148,156,168,170,180,194,196,204,212,218,220,222]),(8,kq [7,9,11,13,15,17,18,20,26,30,36,54,56,64,68,70,72,86,88,90,118,120,122,124,130,146,148,156,168,170,180,194,196,204,212,218,220,222]),(9,kq [13,15,17,20,26,36,54,56,64,68,70,86,88,90,118,120,122,124,130,146,148,156,168,170,180,194,196,204,212,218,220,222]),(10,kq [7,9,13,15,17,18,20,26,30,36,54,56,64,68,70,86,88,90,92,118,120,122,124,130,146,148,156,168,170,180,194,196,204,212,218,220,222]),(11,kq [13,15,17,20,22,26,36,54,56,64,68,70,86,88,90,118,120,122,124,130,146,148,156,168,170,180,194,196,204,212,218,220,222]),(12,kq [13,15,17,20,26,36,54,56,64,68,70,86,88,90,118,120,122,124,130,146,148,156,168,170,180,194,196,204,212,218,220,222]),(13,kq [7,9,13,15,17,18,20,26,30,36,54,56,64,68,70,86,88,90,118,120,122,124,126,130,146,148,156,168,170,180,194,196,204,212,218,220,222]),(14,kq [13,15,17,18,20,26,36,54,56,64,68,70,86,88,90,118,120,122,124,130,146,148,156,168,170,180,194,196,204,212,218,220,222]),(15,kq [7,9,13,15,17,18,20,26,30,36,54,56,64,68,70,86,88,90,118,120,122,124,130,146,148,152,156,168,170,180,194,196,204,212,218,220,222]),(16,kq [13,15,17,18,20,26,36,54,56,64,68,70,86,88,90,118,120,122,124,130,146,148,156,168,170,180,194,196,204,212,218,220,222]),(17,kq [7,9,13,15,17,18,20,26,30,36,54,56,64,68,70,86,88,90,118,120,122,124,130,146,148,156,168,170,174,180,194,196,204,212,218,220,222]),(18,kq [7,9,13,15,17,18,20,26,30,36,54,56,64,68,70,86,88,90,118,120,122,124,130,146,148,156,168,170,174,180,194,196,204,212,218,220,222]),(19,kq [13,15,17,18,20,26,36,54,56,64,68,70,86,88,90,118,120,122,124,130,146,148,156,168,170,180,194,196,204,212,218,220,222]),(20,kq [7,9,13,15,17,18,20,26,30,36,54,56,64,68,70,86,88,90,118,120,122,124,130,146,148,156,168,170,180,194,196,200,204,212,218,220,222]),(21,kq [13,15,17,20,26,36,54,56,64,68,70,86,88,90,118,120,122,124,130,146,148,156,168,170,180,194,196,204,212,218,220,222]),(22,kq [13,15,17,18,20,26,36,54,56,64,68,70,86,88,90,118,120,122,124,130,146,148,156,168,170,180,194,196,204,212,214,218,220,222]),(23,kq [13,15,17,18,20,26,36,54,56,64,68,70,86,88,90,118,120,122,124,130,146,148,156,168,170,180,194,196,204,212,218,220,222]),(24,kq [13,15,17,20,26,36,54,56,64,68,70,86,88,90,118,120,122,124,130,146,148,156,168,170,180,194,196,204,212,218,220,222])]
noncomputable abbrev e6u:Sems:=b3 [(C8,C7),(e1S,e1R),(d6y,d6A),(c0a,b9Z),(b8f,b8e),(c1J,c1I),(c0k,c0h),(e2O,e2N)]
theorem e6v (m:Ml) (o:Op1) (a:An) (n:Nat):body prog e6u c7v n d3k [aR m.cs,aR o.cs,aR a.cs]=(d7 p9 w5 (E2) [(wMl m)] fun (r1:Ml)=>gl r1.2.length<|gl r1.3.length<|bif o.1==1 then d7 a6Q a2x (b6f) [(wMl m),(wHd o.h),(wHd a.h),(0,false,[C.tr false (T.bool (a.1 != 4))])] fun (r2:Ml × Int)=>gl r2.fst.2.length<|gl r2.fst.3.length<|bif r2.2==0 then gl r2.fst.2.length<|gl r2.fst.3.length<|gl r2.fst.2.length<|gl r2.fst.3.length<|some ([(oR (Ml.cs r2.fst)),(true,[.tr true (T.int i64 0),.tr true (T.int i64 a.h.1),.tr true (T.int i64 a.h.2),.tr true (T.int i64 0),.tr true (T.int i64 0),.tr true (T.int i64 0),.tr true (T.int i64 0),.tr true (.arr (1) (0) (fun x x_1=>T.hole)),.tr true (T.int i64 0),.tr true (T.int i64 0),.tr true (T.int i64 0)])],(nu 3)) else gl r2.fst.2.length<|gl r2.fst.3.length<|gl r2.fst.2.length<|gl r2.fst.3.length<|some ([(oR (Ml.cs r2.fst)),(true,[.tr true (T.int i64 r2.2),.tr true (T.int i64 0),.tr true (T.int i64 0),.tr true (T.int i64 0),.tr true (T.int i64 0),.tr true (T.int i64 0),.tr true (T.int i64 0),.tr true (.arr (1) (0) (fun x x_1=>T.hole)),.tr true (T.int i64 0),.tr true (T.int i64 0),.tr true (T.int i64 0)])],(nu 3)) else bif o.1==2 then d7 M0 F6 (a0l) [(wMl m),(wHd o.h),(0,false,[C.tr false (T.int i64 o.4)]),(0,false,[C.tr false (T.int i64 o.5)]),(0,false,[C.tr false (T.bool (a.1==6))])] fun (r3:Ml × Int)=>gl r3.fst.2.length<|gl r3.fst.3.length<|bif r3.2 != 0 then gl r3.fst.2.length<|gl r3.fst.3.length<|gl r3.fst.2.length<|gl r3.fst.3.length<|gl r3.fst.2.length<|gl r3.fst.3.length<|gl r3.fst.2.length<|gl r3.fst.3.length<|some ([(oR (Ml.cs r3.fst)),(true,[.tr true (T.int i64 r3.2),.tr true (T.int i64 0),.tr true (T.int i64 0),.tr true (T.int i64 0),.tr true (T.int i64 0),.tr true (T.int i64 0),.tr true (T.int i64 0),.tr true (.arr (1) (0) (fun x x_1=>T.hole)),.tr true (T.int i64 0),.tr true (T.int i64 0),.tr true (T.int i64 0)])],(nu 3)) else gd ((0+r3.fst.2.length).ble r3.fst.2.length)<|gd ((0+r3.fst.3.length).ble r3.fst.3.length)<|d7 a0C S6 (b0a) [(0,true,[C.tr false (T.int i64 r3.fst.c.1),C.tr false (T.int i64 r3.fst.c.2),C.tr false (T.int i64 r3.fst.c.3),C.tr false (T.int i64 r3.fst.c.4),C.tr false (T.int i64 r3.fst.c.5),C.tr false (T.int i64 r3.fst.c.6),C.tr false (T.arr 11 r3.fst.2.length (l3 0 r3.fst.2.length (eL 11 Rm.cs r3.fst.2).fn)),C.tr false (T.arr 1 r3.fst.3.length (l3 0 r3.fst.3.length (eL 1 b6 r3.fst.3).fn))]),(wHd o.h)] fun (r4:Rm)=>gl r4.3.length<|gl r4.8.length<|gl r4.9.length<|gl r3.fst.2.length<|gl r3.fst.3.length<|gl r3.fst.2.length<|gl r3.fst.3.length<|gl r3.fst.2.length<|gl r3.fst.3.length<|gl r3.fst.2.length<|gl r3.fst.3.length<|some ([(oR (Ml.cs r3.fst)),(true,[.tr true (T.int i64 0),.tr true (T.int i64 0),.tr true (T.int i64 0),.tr true (T.int i64 o.h.1),.tr true (T.int i64 o.h.2),.tr true (T.int i64 r4.4),.tr true (T.int i64 (i64.wrap ((↑r4.8.length:Int) - 1))),.tr true (.arr (1) (0) (fun x x_1=>T.hole)),.tr true (T.int i64 0),.tr true (T.int i64 0),.tr true (T.int i64 0)])],(nu 3)) else bif o.1==3 then d7 R0 H5 (a1u) [(wMl m),(wRf o.r),(0,false,[C.tr false (T.int i64 o.4)]),(0,false,[C.tr false (T.int i64 o.5)])] fun (r5:List UInt8 × Int)=>gl r5.1.length<|gl r5.1.length<|gl r1.2.length<|gl r1.3.length<|gl r5.1.length<|gl r1.2.length<|gl r1.3.length<|gl r5.1.length<|some ([(oR (Ml.cs r1)),(true,[.tr true (T.int i64 r5.2),.tr true (T.int i64 0),.tr true (T.int i64 0),.tr true (T.int i64 0),.tr true (T.int i64 0),.tr true (T.int i64 0),.tr true (T.int i64 0),.tr true (.arr (1) (r5.1.length) (atL f5 r5.1)),.tr true (T.int i64 0),.tr true (T.int i64 0),.tr true (T.int i64 0)])],(nu 3)) else bif o.1==4 then d7 N8 F8 (a0n) [(wMl m),(wRf o.r),(0,false,[C.tr false (T.int i64 o.4)]),(0,false,[C.tr false (eL 1 f5 o.6)])] fun (r6:Ml × Int)=>gl r6.fst.2.length<|gl r6.fst.3.length<|gl r6.fst.2.length<|gl r6.fst.3.length<|gl r6.fst.2.length<|gl r6.fst.3.length<|some ([(oR (Ml.cs r6.fst)),(true,[.tr true (T.int i64 r6.2),.tr true (T.int i64 0),.tr true (T.int i64 0),.tr true (T.int i64 0),.tr true (T.int i64 0),.tr true (T.int i64 0),.tr true (T.int i64 0),.tr true (.arr (1) (0) (fun x x_1=>T.hole)),.tr true (T.int i64 0),.tr true (T.int i64 0),.tr true (T.int i64 0)])],(nu 3)) else bif o.1==5 then d7 T1 J6 (a2v) [(wMl m),(wHd o.h),(0,false,[C.tr false (T.int i64 o.4)])] fun (r7:Ml × Int)=>gl r7.fst.2.length<|gl r7.fst.3.length<|gl r7.fst.2.length<|gl r7.fst.3.length<|gl r7.fst.2.length<|gl r7.fst.3.length<|some ([(oR (Ml.cs r7.fst)),(true,[.tr true (T.int i64 r7.2),.tr true (T.int i64 0),.tr true (T.int i64 0),.tr true (T.int i64 0),.tr true (T.int i64 0),.tr true (T.int i64 0),.tr true (T.int i64 0),.tr true (.arr (1) (0) (fun x x_1=>T.hole)),.tr true (T.int i64 0),.tr true (T.int i64 0),.tr true (T.int i64 0)])],(nu 3)) else bif o.1==6 then d7 H7 E7 (Z6) [(wMl m),(wHd o.h),(0,false,[C.tr false (T.bool (o.1==7))])] fun (r8:Ml × Int)=>gl r8.fst.2.length<|gl r8.fst.3.length<|gl r8.fst.2.length<|gl r8.fst.3.length<|gl r8.fst.2.length<|gl r8.fst.3.length<|some ([(oR (Ml.cs r8.fst)),(true,[.tr true (T.int i64 r8.2),.tr true (T.int i64 0),.tr true (T.int i64 0),.tr true (T.int i64 0),.tr true (T.int i64 0),.tr true (T.int i64 0),.tr true (T.int i64 0),.tr true (.arr (1) (0) (fun x x_1=>T.hole)),.tr true (T.int i64 0),.tr true (T.int i64 0),.tr true (T.int i64 0)])],(nu 3)) else bif o.1==7 then d7 H7 E7 (Z6) [(wMl m),(wHd o.h),(0,false,[C.tr false (T.bool (o.1==7))])] fun (r9:Ml × Int)=>gl r9.fst.2.length<|gl r9.fst.3.length<|gl r9.fst.2.length<|gl r9.fst.3.length<|gl r9.fst.2.length<|gl r9.fst.3.length<|some ([(oR (Ml.cs r9.fst)),(true,[.tr true (T.int i64 r9.2),.tr true (T.int i64 0),.tr true (T.int i64 0),.tr true (T.int i64 0),.tr true (T.int i64 0),.tr true (T.int i64 0),.tr true (T.int i64 0),.tr true (.arr (1) (0) (fun x x_1=>T.hole)),.tr true (T.int i64 0),.tr true (T.int i64 0),.tr true (T.int i64 0)])],(nu 3)) else bif o.1==8 then d7 a7c a2H (c0n) [(wMl m),(wHd o.h)] fun (r10:An)=>gl r1.2.length<|gl r1.3.length<|gl r10.4.length<|gl r1.2.length<|gl r1.3.length<|gl r10.4.length<|some ([(oR (Ml.cs r1)),(oR (An.cs r10))],(nu 3)) else bif o.1==9 then gl r1.2.length<|gl r1.3.length<|gl r1.2.length<|gl r1.3.length<|some ([(oR (Ml.cs r1)),(true,[.tr true (T.int i64 0),.tr true (T.int i64 0),.tr true (T.int i64 0),.tr true (T.int i64 0),.tr true (T.int i64 0),.tr true (T.int i64 0),.tr true (T.int i64 0),.tr true (.arr (1) (0) (fun x x_1=>T.hole)),.tr true (T.int i64 0),.tr true (T.int i64 0),.tr true (T.int i64 0)])],(nu 3)) else gl r1.2.length<|gl r1.3.length<|gl r1.2.length<|gl r1.3.length<|some ([(oR (Ml.cs r1)),(true,[.tr true (T.int i64 1),.tr true (T.int i64 0),.tr true (T.int i64 0),.tr true (T.int i64 0),.tr true (T.int i64 0),.tr true (T.int i64 0),.tr true (T.int i64 0),.tr true (.arr (1) (0) (fun x x_1=>T.hole)),.tr true (T.int i64 0),.tr true (T.int i64 0),.tr true (T.int i64 0)])],(nu 3))):=by kernel_rfl
end Go.Mach.F
namespace Go.Mach.F
open Go Go.Mach Go.Proofs.Tryz
theorem f2Z {α:Type} (row:α→List T) (l:List α):i4 (l.map row)=atL row l:=by
 funext j k
 unfold i4 atL
 have e:(l.map row).getD j []=match l[j]? with | some x=>row x | none=>[]:=by
  rw [List.getD_eq_getElem?_getD,List.getElem?_map]
  cases l[j]? <;> rfl
 rw [e]
 cases l[j]? <;> rfl
theorem f0b (k:Int):f5 (u8 k)=[T.int IntKind.u8 (IntKind.u8.wrap k)]:=by
 have h:IntKind.u8.wrap k=k % 256:=by
  unfold IntKind.wrap
  simp [IntKind.signed,IntKind.bits]
 unfold f5 u8
 rw [h]
 have h0:0≤k % 256:=Int.emod_nonneg _ (by decide)
 have h1:k % 256 < 256:=Int.emod_lt_of_pos _ (by decide)
 rw [UInt8.toNat_ofNat']
 congr 2
 omega
theorem c9G (a b c d:Int):i4 [[T.int IntKind.u8 (IntKind.u8.wrap a)],[T.int IntKind.u8 (IntKind.u8.wrap b)],[T.int IntKind.u8 (IntKind.u8.wrap c)],[T.int IntKind.u8 (IntKind.u8.wrap d)]]=atL f5 [u8 a,u8 b,u8 c,u8 d]:=by
 rw [← f2Z]
 simp only [List.map,f0b]
theorem f0c {l l':List Rm} (e:l.map Rm.h=l'.map Rm.h) (h:Hd):rof l h=rof l' h:=by
 have e1:l.length=l'.length:=by simpa using congrArg List.length e
 have e2:∀ i:Nat,l[i]?.map Rm.h=l'[i]?.map Rm.h:=fun i=>by rw [← List.getElem?_map,← List.getElem?_map,e]
 unfold rof
 simp only [e1,e2]
theorem e6w {l:List Rm} {j:Nat} {x y:Rm} (hx:l[j]?=some x) (e:y.h=x.h):(l.set j y).map Rm.h=l.map Rm.h:=by
 refine List.ext_getElem? fun i=>?_
 rw [List.getElem?_map,List.getElem?_map,List.getElem?_set]
 split
 ·rename_i hj
  subst hj
  split
  ·rw [hx];simp [e]
  ·rename_i hn
   rw [List.getElem?_eq_none (by omega)]
 ·rfl
theorem e6x {l:List Rm} {h:Hd} {x y:Rm} (h0:¬ rof l h < 0) (hx:l[(rof l h).toNat]?=some x) (e:y.h=x.h):a7J (l.set (rof l h).toNat y) h=y:=by
 have e1:=a4S h0
 unfold a7J
 rw [f0c (e6w hx e),decide_eq_false h0,cond_false,List.getD_eq_getElem?_getD,List.getElem?_set_self e1.2]
 rfl
theorem d3l {m:Ml} {h:Hd} {sz al:Int} {fr:Bool} (e:(a0c m h sz al fr).2=0):(0≤rof m.rooms h∧(rof m.rooms h).toNat < m.rooms.length)∧(a7J (a0c m h sz al fr).1.rooms h).ep=(rmJ m (rof m.rooms h)).ep∧(a7J (a0c m h sz al fr).1.rooms h).things.length=(rmJ m (rof m.rooms h)).things.length+1:=by
 unfold a0c at e ⊢
 cases hsz:a5S sz al with
 | false=>rw [hsz] at e;exact absurd e (by decide:¬ (1:Int)=0)
 | true =>
  rw [hsz] at e
  simp only [cond_true] at e ⊢
  by_cases e1:(rsv m h).2=0
  case neg=>simp only [e1,decide_false,cond_false] at e
  simp only [e1,decide_true,cond_true] at e ⊢
  have hr:¬ rof m.rooms h < 0∧(rsv m h).1=rof m.rooms h:=by
   unfold rsv at e1 ⊢
   cases hh:hOk h with
   | false=>rw [hh] at e1;exact absurd e1 (by decide:¬ (1:Int)=0)
   | true =>
    rw [hh] at e1
    by_cases e2:rof m.rooms h < 0
    ·simp only [e2,decide_true,cond_true] at e1;exact absurd e1 (by decide:¬ (2:Int)=0)
    ·simp only [e2,decide_false,cond_true,cond_false,not_false_eq_true,and_self]
  have hl:=a4S hr.1
  have hx:=A2 hl.2
  refine ⟨hl,?_⟩
  rw [hr.2] at e ⊢
  unfold d2I at e ⊢
  obtain ⟨x,hxe⟩:∃ x,x=rmJ m (rof m.rooms h):=⟨_,rfl⟩
  rw [show m.rooms.getD (rof m.rooms h).toNat zRm=rmJ m (rof m.rooms h) from rfl,← hxe] at hx
  rw [← hxe] at e ⊢
  have fin:∀ y:Rm,y.h=x.h→y.ep=x.ep→y.things=x.things→(a7J (a8W m (rof m.rooms h) (a7U y sz)).rooms h).ep=x.ep∧(a7J (a8W m (rof m.rooms h) (a7U y sz)).rooms h).things.length=x.things.length+1:=fun y y1 y2 y3=>by
   unfold a8W
   dsimp only
   rw [e6x hr.1 hx (show (a7U y sz).h=x.h from y1)]
   exact ⟨y2,by unfold a7U;simp [y3]⟩
  by_cases a3:12≤(x.things.length:Int)
  ·simp only [a3,decide_true,cond_true] at e;exact absurd e (by decide:¬ (8:Int)=0)
  simp only [a3,decide_false,cond_false] at e ⊢
  by_cases a4:m.c.size < sz
  ·simp only [a4,decide_true,cond_true] at e ⊢
   cases hd:decide (m.c.chunks < IntKind.i64.wrap (tkn m.rooms+cdv sz m.c.size)) with
   | true=>rw [hd] at e;exact absurd e (by decide:¬ (5:Int)=0)
   | false=>cases fr with
    | true=>rw [hd] at e;exact absurd e (by decide:¬ (6:Int)=0)
    | false=>exact fin (a5T x (cdv sz m.c.size)) rfl rfl rfl
  ·simp only [a4,decide_false,cond_false] at e ⊢
   generalize a9D m x sz al=N at e ⊢
   cases hd:(N&&decide (m.c.chunks < IntKind.i64.wrap (tkn m.rooms+1))) with
   | true=>rw [hd] at e;exact absurd e (by decide:¬ (5:Int)=0)
   | false=>exact fin (a7T x N sz al) (by cases N <;> rfl) (by cases N <;> rfl) (by cases N <;> rfl)
theorem e2T (m:Ml) (h:Hd) (n:Nat) (h0:a7b (m,h)):body prog (b3 [(a0E,a0D)]) c7s n d3h (a2G (m,h))=some (erR 2 (c0m (m,h)).cs):=by
 have hlm:=lm
 have hl:m.rooms.length≤LM:=h0
 have c0:Q1 (m,h):=hl
 unfold a2G c0m
 dsimp only
 rw [e6p]
 try simp (implicitDefEqProofs:=false) only [l7,Ml.cs,Hd.cs]
 rw [b4 (b5Y c0) (b5Z c0)]
 simp (implicitDefEqProofs:=false) only [b9y,w7]
 by_cases e:(rsv m h).2=0
 case neg =>
  simp (implicitDefEqProofs:=false) only [stt,e,decide_false,Bool.not_false,cond_true,cond_false]
  rfl
 have hk:=a3r e
 have hx:=A2 hk.2
 obtain ⟨x,hxe⟩:∃ x,x=rmJ m (rsv m h).1:=⟨_,rfl⟩
 rw [show m.rooms.getD (rsv m h).1.toNat zRm=rmJ m (rsv m h).1 from rfl,← hxe] at hx
 have e0:=hk.1
 have e1:=hk.2
 have s4:(4:Nat)*1≤70368744177664:=by omega
 simp (implicitDefEqProofs:=false) only [stt,← hxe,f4,e,e0,e1,Bool.not_true,cond_false,d6 hx,Rm.cs,T.get,i6,Nat.le_refl,lse]
 rcases hc:x.cur with _ | _
 ·simp (implicitDefEqProofs:=false) only [hc,cond_false]
  rw [show [T.int IntKind.u8 0]=[T.int IntKind.u8 (IntKind.u8.wrap 0)] from rfl,c9G]
  rfl
 ·simp (implicitDefEqProofs:=false) only [hc,cond_true]
  rw [c9G]
  rfl
theorem f2q:d8 prog e2M e2L:=g8 c1Z fun x hx =>
 b9 (φ:=(b3 [(a0E,a0D)])) (a9 b9A b5) d9 (kp:=c7s) (n:=0) func91 (c:=d3 d3h) (by kernel_rfl) (e2T x.1 x.2 (0) hx) (b8 (by kernel_rfl))
theorem e2U (m:Ml) (h:Hd) (n:Nat) (h0:a7c (m,h)):body prog (b3 [(L0,K9)]) c7t n d3i (a2H (m,h))=some (erR 2 (c0n (m,h)).cs):=by
 have hlm:=lm
 have hl:m.rooms.length≤LM:=h0
 have c0:Q2 (m,h):=hl
 unfold a2H c0n
 dsimp only
 rw [e6q]
 try simp (implicitDefEqProofs:=false) only [l7,Ml.cs,Hd.cs]
 rw [b4 (b6a c0) (b6b c0)]
 simp (implicitDefEqProofs:=false) only [b9z,w7]
 by_cases e:(rsv m h).2=0
 case neg =>
  simp (implicitDefEqProofs:=false) only [stt,e,decide_false,Bool.not_false,cond_true,cond_false]
  rfl
 have hk:=a3r e
 have hx:=A2 hk.2
 obtain ⟨x,hxe⟩:∃ x,x=rmJ m (rsv m h).1:=⟨_,rfl⟩
 rw [show m.rooms.getD (rsv m h).1.toNat zRm=rmJ m (rsv m h).1 from rfl,← hxe] at hx
 have e0:=hk.1
 have e1:=hk.2
 have s4:(4:Nat)*1≤70368744177664:=by omega
 simp (implicitDefEqProofs:=false) only [stt,← hxe,f4,e,e0,e1,Bool.not_true,cond_false,d6 hx,Rm.cs,T.get,i6,Nat.le_refl,lse]
 rcases hc:x.cur with _ | _
 ·simp (implicitDefEqProofs:=false) only [hc,cond_false]
  rw [show [T.int IntKind.u8 0]=[T.int IntKind.u8 (IntKind.u8.wrap 0)] from rfl,c9G]
  rfl
 ·simp (implicitDefEqProofs:=false) only [hc,cond_true]
  rw [c9G]
  rfl
theorem f2r:d8 prog e2O e2N:=g8 c2a fun x hx =>
 b9 (φ:=(b3 [(L0,K9)])) (a9 b9B b5) d9 (kp:=c7t) (n:=0) func77 (c:=d3 d3i) (by kernel_rfl) (e2U x.1 x.2 (0) hx) (b8 (by kernel_rfl))
end Go.Mach.F
namespace Go.Mach.F
open Go Go.Mach Go.Proofs.Tryz
theorem e2V (m:Ml) (o:Op1) (a:An) (n:Nat) (h:a7d (m,o,a)):body prog e6s c7u n d3j (a2I (m,o,a))=some ([oR (b6o (m,o,a)).1.cs,oR (b6o (m,o,a)).2.cs],[nul,nul,nul]):=by
 have hlm:=lm
 obtain ⟨⟨⟨g1,g2⟩,g3⟩,g4⟩:=h
 obtain ⟨g4,g5⟩:=g4
 have c0:A9 m:=⟨g1,g2⟩
 have c1:a6O (m,o.h,a.h,!decide (a.code=4)):=⟨g1,g2⟩
 have c2:L9 (m,o.h,o.n,o.m,decide (a.code=6)):=⟨g1,g2⟩
 have c3:Q9 (m,o.r,o.n,o.m):=g1
 have c4:N0 (m,o.r,o.n,o.b):=⟨g1,g2,g3⟩
 have c5:T0 (m,o.h,o.n):=⟨g1,g2⟩
 have c6:H6 (m,o.h,decide (o.kind=7)):=⟨g1,g2,g4,g5⟩
 have ct:H6 (m,o.h,true):=⟨g1,g2,g4,g5⟩
 have c8:a7b (m,o.h):=g1.1
 have c7:z3 (m,o.h):=g1.1
 unfold a2I b6o
 dsimp only
 rw [e6t]
 try simp (implicitDefEqProofs:=false) only [l7,Ml.cs,Hd.cs,Rf.cs,Op1.cs,An.cs]
 rw [b4 (a3s c0) (a3t c0)]
 simp (implicitDefEqProofs:=false) only [a5G,f4,w7,A1]
 by_cases k1:o.kind=1
 case pos =>
  simp (implicitDefEqProofs:=false) only [ecl,decide_eq_true k1,cond_true]
  rw [b4 (e9k c1) (e9l c1)]
  simp (implicitDefEqProofs:=false) only [f1K]
  generalize a5P m o.h a.h (!decide (a.code=4))=x
  by_cases ex:x.2=0
  ·simp (implicitDefEqProofs:=false) only [d3f,ex,decide_true,cond_true]
   rfl
  ·simp (implicitDefEqProofs:=false) only [d3f,ex,decide_false,cond_false]
   rfl
 simp (implicitDefEqProofs:=false) only [ecl,decide_eq_false k1,cond_false]
 by_cases k2:o.kind=2
 case pos =>
  simp (implicitDefEqProofs:=false) only [decide_eq_true k2,cond_true]
  rw [b4 (c7b c2) (c7c c2)]
  simp (implicitDefEqProofs:=false) only [c9h]
  have hal:=@d3l m o.h o.n o.m (decide (a.code=6))
  generalize a0c m o.h o.n o.m (decide (a.code=6))=x at hal ⊢
  by_cases ex:x.2=0
  ·obtain ⟨hl,-,-⟩:=hal ex
   have hx:=A2 hl.2
   obtain ⟨y,hye⟩:∃ y,y=rmJ m (rof m.rooms o.h):=⟨_,rfl⟩
   rw [show m.rooms.getD (rof m.rooms o.h).toNat zRm=rmJ m (rof m.rooms o.h) from rfl,← hye] at hx
   have e0:=hl.1
   have e1:=hl.2
   simp (implicitDefEqProofs:=false) only [d3g,ex,decide_true,cond_true,← hye]
   rw [b4 (a1U c7) (a1V c7)]
   simp (implicitDefEqProofs:=false) only [a3o,f4,e0,e1,d6 hx,Rm.cs,T.get]
   rfl
  ·simp (implicitDefEqProofs:=false) only [d3g,ex,decide_false,cond_false]
   rfl
 simp (implicitDefEqProofs:=false) only [decide_eq_false k2,cond_false]
 by_cases k3:o.kind=3
 case pos =>
  simp (implicitDefEqProofs:=false) only [decide_eq_true k3,cond_true]
  rw [b4 (c9l c3) (c9m c3)]
  simp (implicitDefEqProofs:=false) only [d2Q,e6o]
  rfl
 simp (implicitDefEqProofs:=false) only [decide_eq_false k3,cond_false]
 by_cases k4:o.kind=4
 case pos =>
  simp (implicitDefEqProofs:=false) only [decide_eq_true k4,cond_true]
  rw [b4 (c7i c4) (c7j c4)]
  simp (implicitDefEqProofs:=false) only [c9p,cdA]
  rfl
 simp (implicitDefEqProofs:=false) only [decide_eq_false k4,cond_false]
 by_cases k5:o.kind=5
 case pos =>
  simp (implicitDefEqProofs:=false) only [decide_eq_true k5,cond_true]
  rw [b4 (d2a c5) (d2b c5)]
  simp (implicitDefEqProofs:=false) only [d3W,cdA]
  rfl
 simp (implicitDefEqProofs:=false) only [decide_eq_false k5,cond_false]
 by_cases k6:o.kind=6
 case pos =>
  simp (implicitDefEqProofs:=false) only [decide_eq_true k6,cond_true]
  rw [b4 (b8g c6) (b8h c6)]
  simp (implicitDefEqProofs:=false) only [c0g,cdA]
  rfl
 simp (implicitDefEqProofs:=false) only [decide_eq_false k6,cond_false]
 by_cases k7:o.kind=7
 case pos =>
  simp (implicitDefEqProofs:=false) only [decide_eq_true k7,cond_true]
  rw [b4 (b8g ct) (b8h ct)]
  simp (implicitDefEqProofs:=false) only [c0g,cdA]
  rfl
 simp (implicitDefEqProofs:=false) only [decide_eq_false k7,cond_false]
 by_cases k8:o.kind=8
 case pos =>
  simp (implicitDefEqProofs:=false) only [decide_eq_true k8,cond_true]
  rw [b4 (e9S c8) (e9T c8)]
  simp (implicitDefEqProofs:=false) only [f2m,cdA]
  rfl
 simp (implicitDefEqProofs:=false) only [decide_eq_false k8,cond_false]
 by_cases k9:o.kind=9
 case pos =>
  simp (implicitDefEqProofs:=false) only [decide_eq_true k9,cond_true]
  rfl
 simp (implicitDefEqProofs:=false) only [decide_eq_false k9,cond_false]
 rfl
theorem f2s:d8 prog e2Q e2P:=g8 c2b fun x hx =>
 b9 (φ:=e6s) (a9 a5J (a9 f1M (a9 c9j (a9 a9W (a9 d2S (a9 c9r (a9 d3Y (a9 d3c (a9 f2q b5))))))))) d9 (kp:=c7u) (n:=0) func40 (c:=d3 d3j) (by kernel_rfl) (e2V x.1 x.2.1 x.2.2 (0) hx) (b8 (by kernel_rfl))
theorem e2W (m:Ml) (o:Op1) (a:An) (n:Nat) (h:a7e (m,o,a)):body prog e6u c7v n d3k (a2J (m,o,a))=some ([oR (b6p (m,o,a)).1.cs,oR (b6p (m,o,a)).2.cs],[nul,nul,nul]):=by
 have hlm:=lm
 obtain ⟨⟨⟨g1,g2⟩,g3⟩,g4,g6⟩:=h
 obtain ⟨g5,g6⟩:=g6
 have c0:p9 m:=⟨g1,g2⟩
 have c1:a6Q (m,o.h,a.h,!decide (a.code=4)):=⟨g1,g2⟩
 have c2:M0 (m,o.h,o.n,o.m,decide (a.code=6)):=⟨g1,g2⟩
 have c3:R0 (m,o.r,o.n,o.m):=g1
 have c4:N8 (m,o.r,o.n,o.b):=⟨g1,g2,g3⟩
 have c5:T1 (m,o.h,o.n):=⟨g1,g2⟩
 have c6:H7 (m,o.h,decide (o.kind=7)):=⟨g1,g2,g4,g5⟩
 have ct:H7 (m,o.h,true):=⟨g1,g2,g4,g5⟩
 have c8:a7c (m,o.h):=g1.1
 unfold a2J b6p
 dsimp only
 rw [e6v]
 try simp (implicitDefEqProofs:=false) only [l7,Ml.cs,Hd.cs,Rf.cs,Op1.cs,An.cs]
 rw [b4 (W7 c0) (W8 c0)]
 simp (implicitDefEqProofs:=false) only [a0Q,f4,w7,A1]
 by_cases k1:o.kind=1
 case pos =>
  simp (implicitDefEqProofs:=false) only [ecl,decide_eq_true k1,cond_true]
  rw [b4 (e9n c1) (e9o c1)]
  simp (implicitDefEqProofs:=false) only [f1O]
  generalize a5P m o.h a.h (!decide (a.code=4))=x
  by_cases ex:x.2=0
  ·simp (implicitDefEqProofs:=false) only [d3f,ex,decide_true,cond_true]
   rfl
  ·simp (implicitDefEqProofs:=false) only [d3f,ex,decide_false,cond_false]
   rfl
 simp (implicitDefEqProofs:=false) only [ecl,decide_eq_false k1,cond_false]
 by_cases k2:o.kind=2
 case pos =>
  simp (implicitDefEqProofs:=false) only [decide_eq_true k2,cond_true]
  rw [b4 (c7d c2) (c7e c2)]
  simp (implicitDefEqProofs:=false) only [c9i]
  have hal:=@d3l m o.h o.n o.m (decide (a.code=6))
  have c9:a0C ((a0c m o.h o.n o.m (decide (a.code=6))).1,o.h):=g6
  generalize a0c m o.h o.n o.m (decide (a.code=6))=x at hal c9 ⊢
  by_cases ex:x.2=0
  ·obtain ⟨hl,h2,h3⟩:=hal ex
   have hx:=A2 hl.2
   have hy:=(g1.2 _ (List.mem_of_getElem? hx)).2.1.1
   rw [show m.rooms.getD (rof m.rooms o.h).toNat zRm=rmJ m (rof m.rooms o.h) from rfl] at hy
   simp (implicitDefEqProofs:=false) only [d3g,ex,decide_true,cond_true,Bool.not_true,cond_false,f4,G8]
   rw [b4 (d8j c9) (d8k c9)]
   simp (implicitDefEqProofs:=false) only [e1g,h2,h3]
   rw [show ((((rmJ m (rof m.rooms o.h)).things.length+1:Nat):Int) - 1)=(((rmJ m (rof m.rooms o.h)).things.length:Nat):Int) by omega,v8 (by omega) (by omega)]
   rfl
  ·simp (implicitDefEqProofs:=false) only [d3g,ex,decide_false,cond_false,Bool.not_false,cond_true]
   rfl
 simp (implicitDefEqProofs:=false) only [decide_eq_false k2,cond_false]
 by_cases k3:o.kind=3
 case pos =>
  simp (implicitDefEqProofs:=false) only [decide_eq_true k3,cond_true]
  rw [b4 (c9n c3) (c9o c3)]
  simp (implicitDefEqProofs:=false) only [d2R,e6o]
  rfl
 simp (implicitDefEqProofs:=false) only [decide_eq_false k3,cond_false]
 by_cases k4:o.kind=4
 case pos =>
  simp (implicitDefEqProofs:=false) only [decide_eq_true k4,cond_true]
  rw [b4 (c7k c4) (c7l c4)]
  simp (implicitDefEqProofs:=false) only [c9q,cdA]
  rfl
 simp (implicitDefEqProofs:=false) only [decide_eq_false k4,cond_false]
 by_cases k5:o.kind=5
 case pos =>
  simp (implicitDefEqProofs:=false) only [decide_eq_true k5,cond_true]
  rw [b4 (d2c c5) (d2d c5)]
  simp (implicitDefEqProofs:=false) only [d3X,cdA]
  rfl
 simp (implicitDefEqProofs:=false) only [decide_eq_false k5,cond_false]
 by_cases k6:o.kind=6
 case pos =>
  simp (implicitDefEqProofs:=false) only [decide_eq_true k6,cond_true]
  rw [b4 (b8i c6) (b8j c6)]
  simp (implicitDefEqProofs:=false) only [c0i,cdA]
  rfl
 simp (implicitDefEqProofs:=false) only [decide_eq_false k6,cond_false]
 by_cases k7:o.kind=7
 case pos =>
  simp (implicitDefEqProofs:=false) only [decide_eq_true k7,cond_true]
  rw [b4 (b8i ct) (b8j ct)]
  simp (implicitDefEqProofs:=false) only [c0i,cdA]
  rfl
 simp (implicitDefEqProofs:=false) only [decide_eq_false k7,cond_false]
 by_cases k8:o.kind=8
 case pos =>
  simp (implicitDefEqProofs:=false) only [decide_eq_true k8,cond_true]
  rw [b4 (e9U c8) (e9V c8)]
  simp (implicitDefEqProofs:=false) only [f2n,cdA]
  rfl
 simp (implicitDefEqProofs:=false) only [decide_eq_false k8,cond_false]
 by_cases k9:o.kind=9
 case pos =>
  simp (implicitDefEqProofs:=false) only [decide_eq_true k9,cond_true]
  rfl
 simp (implicitDefEqProofs:=false) only [decide_eq_false k9,cond_false]
 rfl
theorem f2t:d8 prog e2S e2R:=g8 c2c fun x hx =>
 b9 (φ:=e6u) (a9 a5K (a9 f1W (a9 e9W (a9 d2T (a9 c9s (a9 d3Z (a9 d3e (a9 f2r b5)))))))) d9 (kp:=c7v) (n:=0) func33 (c:=d3 d3k) (by kernel_rfl) (e2W x.1 x.2.1 x.2.2 (0) hx) (b8 (by kernel_rfl))
end Go.Mach.F
namespace Go.Mach.F
open Go Go.Mach Go.Proofs.Tryz
theorem c3f {α:Type} (c:α→Nat):∀ {l:List α} {j:Nat} {x y:α},l[j]?=some x→cntL c (l.set j y)+c x=cntL c l+c y
 | [],_,_,_,h=>by simp at h
 | z::l,0,x,y,h=>by
  simp at h
  subst h
  simp only [List.set_cons_zero,cntL]
  omega
 | z::l,j+1,x,y,h=>by
  have:=c3f c (l:=l) (j:=j) (x:=x) (y:=y) (by simpa using h)
  simp only [List.set_cons_succ,cntL]
  omega
theorem b4b {l:List Rm} {j:Nat} {x y:Rm} (hq:u6 l) (hx:l[j]?=some x) (hy:a0d y.kids∧a1e y.things∧v4 y.tags) (d:Nat) (hn:j3 y≤j3 x+d):u6 (l.set j y)∧o5 (l.set j y)≤o5 l+d:=by
 refine ⟨⟨by rw [List.length_set];exact hq.1,fun z hz=>?_⟩,?_⟩
 ·rcases List.mem_or_eq_of_mem_set hz with h | rfl
  ·exact hq.2 _ h
  ·exact hy
 ·have:=c3f j3 (y:=y) hx
  unfold o5
  rw [List.length_set]
  omega
theorem f0d {m:Ml} {h:Hd} {k:Int} (hq:u6 m.rooms) (hl:v4 m.log):(u6 (a8N m h k).1.rooms∧v4 (a8N m h k).1.log)∧o5 (a8N m h k).1.rooms≤o5 m.rooms+1∧(a8N m h k).1.log=m.log:=by
 have hbm:=bm
 unfold a8N
 cases (decide (0≤k)&&decide (k≤255)) with
 | false=>exact ⟨⟨hq,hl⟩,Nat.le_succ _,rfl⟩
 | true =>
  by_cases e:(rsv m h).2=0
  ·have hk:=a3r e
   have hx:=A2 hk.2
   obtain ⟨x,hxe⟩:∃ x,x=m.rooms.getD (rsv m h).1.toNat zRm:=⟨_,rfl⟩
   rw [← hxe] at hx ⊢
   simp only [e,decide_true,cond_true]
   by_cases e2:6≤(x.tags.length:Int)
   ·simp only [e2,decide_true,cond_true,and_true]
    exact ⟨⟨hq,hl⟩,Nat.le_succ _⟩
   ·simp only [e2,decide_false,cond_false,and_true]
    have hy:=hq.2 _ (List.mem_of_getElem? hx)
    have hs:=b4b (y:=b9D x k) hq hx ⟨hy.1,hy.2.1,by unfold v4 b9D;rw [List.length_append,List.length_singleton];omega⟩ 1 (by unfold j3 b9D H9;rw [List.length_append,List.length_singleton];dsimp only;omega)
    exact ⟨⟨hs.1,hl⟩,hs.2⟩
  ·simp only [e,decide_false,cond_true,cond_false,and_true]
   exact ⟨⟨hq,hl⟩,Nat.le_succ _⟩
end Go.Mach.F
namespace Go.Mach.F
open Go Go.Mach Go.Proofs.Tryz
theorem b2N {α:Type} (c:α→Nat):∀ (l l':List α),cntL c (l ++ l')=cntL c l+cntL c l'
 | [],l'=>by simp [cntL]
 | x::l,l'=>by
  have:=b2N c l l'
  simp only [List.cons_append,cntL]
  omega
theorem d6B {m:Ml} {j:Nat} {x y:Rm} {sz:Int} (hz:1≤sz∧sz≤200) (hq:u6 m.rooms) (hx:m.rooms[j]?=some x) (h12:¬ 12≤(x.things.length:Int)) (e1:y.kids=x.kids) (e2:y.things=x.things) (e3:y.tags=x.tags) :
  u6 (m.rooms.set j (a7U y sz))∧o5 (m.rooms.set j (a7U y sz))≤o5 m.rooms+201:=by
 have hbm:=bm
 have hy:=hq.2 _ (List.mem_of_getElem? hx)
 refine b4b hq hx ⟨?_,⟨?_,?_⟩,?_⟩ 201 ?_
 ·show a0d y.kids
  rw [e1]
  exact hy.1
 ·show (y.things ++ [(⟨List.replicate sz.toNat 0⟩:Sf)]).length≤BM
  rw [List.length_append,e2,List.length_singleton]
  omega
 ·intro z hz'
  rcases List.mem_append.1 (show z∈y.things ++ [(⟨List.replicate sz.toNat 0⟩:Sf)] from hz') with h | h
  ·rw [e2] at h
   exact hy.2.1.2 _ h
  ·rw [List.mem_singleton.1 h]
   show (List.replicate sz.toNat (0:UInt8)).length≤BM
   rw [List.length_replicate]
   omega
 ·show v4 y.tags
  rw [e3]
  exact hy.2.2
 ·have hn:B2 (y.things ++ [(⟨List.replicate sz.toNat 0⟩:Sf)])=B2 x.things+(1+sz.toNat):=by
   unfold B2
   rw [List.length_append,b2N,e2]
   have:cntL z8 [(⟨List.replicate sz.toNat 0⟩:Sf)]=sz.toNat:=by
    show (List.replicate sz.toNat (0:UInt8)).length+0=_
    rw [List.length_replicate]
    rfl
   rw [this,List.length_singleton]
   omega
  show a0Z y.kids+B2 (y.things ++ [(⟨List.replicate sz.toNat 0⟩:Sf)])+H9 y.tags≤a0Z x.kids+B2 x.things+H9 x.tags+201
  rw [hn,e1,e3]
  omega
theorem d6C {m:Ml} {h:Hd} {sz al:Int} {fr:Bool} (hq:u6 m.rooms) (hl:v4 m.log):(u6 (a0c m h sz al fr).1.rooms∧v4 (a0c m h sz al fr).1.log)∧o5 (a0c m h sz al fr).1.rooms≤o5 m.rooms+201∧(a0c m h sz al fr).1.log=m.log:=by
 have triv:(u6 m.rooms∧v4 m.log)∧o5 m.rooms≤o5 m.rooms+201∧m.log=m.log:=⟨⟨hq,hl⟩,Nat.le_add_right _ _,rfl⟩
 unfold a0c
 cases hsz:a5S sz al with
 | false=>exact triv
 | true =>
  have hz:=(d6q hsz).1
  by_cases e:(rsv m h).2=0
  case neg=>simp only [e,decide_false,cond_true,cond_false,and_true];exact ⟨triv.1,triv.2.1⟩
  have hk:=a3r e
  have hx:=A2 hk.2
  simp only [e,decide_true,cond_true]
  unfold d2I rmJ
  obtain ⟨x,hxe⟩:∃ x,x=m.rooms.getD (rsv m h).1.toNat zRm:=⟨_,rfl⟩
  rw [← hxe] at hx ⊢
  by_cases a3:12≤(x.things.length:Int)
  ·simp only [a3,decide_true,cond_true,and_true];exact ⟨triv.1,triv.2.1⟩
  simp only [a3,decide_false,cond_false]
  by_cases a4:m.c.size < sz
  ·simp only [a4,decide_true,cond_true]
   cases decide (m.c.chunks < IntKind.i64.wrap (tkn m.rooms+cdv sz m.c.size)) with
   | true=>exact triv
   | false=>cases fr with
    | true=>exact triv
    | false =>
     have:=d6B (m:=m) (y:=a5T x (cdv sz m.c.size)) hz hq hx a3 rfl rfl rfl
     exact ⟨⟨this.1,hl⟩,this.2,rfl⟩
  ·simp only [a4,decide_false,cond_false]
   generalize a9D m x sz al=N
   cases (N&&decide (m.c.chunks < IntKind.i64.wrap (tkn m.rooms+1))) with
   | true=>exact triv
   | false =>
    have:=d6B (m:=m) (y:=a7T x N sz al) hz hq hx a3 (by cases N <;> rfl) (by cases N <;> rfl) (by cases N <;> rfl)
    exact ⟨⟨this.1,hl⟩,this.2,rfl⟩
end Go.Mach.F
namespace Go.Mach.F
open Go Go.Mach Go.Proofs.Tryz
theorem f0e {l:List Rm} {i:Int} {x:Rm} (hq:u6 l) (hl:l.length < BM) (hx:a0d x.kids∧a1e x.things∧v4 x.tags):u6 (V9 l i x)∧o5 (V9 l i x)=o5 l+1+j3 x:=by
 have hn:(V9 l i x).length=l.length+1:=by
  unfold V9
  simp only [List.length_append,List.length_take,List.length_drop,List.length_singleton]
  omega
 refine ⟨⟨by omega,fun z hz=>?_⟩,?_⟩
 ·unfold V9 at hz
  rcases List.mem_append.1 hz with h | h
  ·rcases List.mem_append.1 h with h | h
   ·exact hq.2 _ (List.mem_of_mem_take h)
   ·rw [List.mem_singleton] at h
    subst h
    exact hx
  ·exact hq.2 _ (List.mem_of_mem_drop h)
 ·have e1:cntL j3 (V9 l i x)=cntL j3 l+j3 x:=by
   have e:=b2N j3 (l.take i.toNat) (l.drop i.toNat)
   rw [List.take_append_drop] at e
   have e3:cntL j3 [x]=j3 x:=by simp [cntL]
   unfold V9
   rw [b2N,b2N,e3]
   omega
  unfold o5
  rw [hn,e1]
  omega
theorem f0f {m:Ml} {up h:Hd} {b:Bool} (hq:u6 m.rooms) (hl:v4 m.log) (hn:(A7 m:Int)≤1073741824):(u6 (a5P m up h b).1.rooms∧v4 (a5P m up h b).1.log)∧o5 (a5P m up h b).1.rooms≤o5 m.rooms+2∧(a5P m up h b).1.log=m.log:=by
 have hbm:=bm
 have hnm:A7 m=(m.rooms.length+cntL j3 m.rooms)+H9 m.log:=rfl
 have triv:(u6 m.rooms∧v4 m.log)∧o5 m.rooms≤o5 m.rooms+2∧m.log=m.log:=⟨⟨hq,hl⟩,by omega,rfl⟩
 have put:∀ k:Int,k < 0∨k.toNat < m.rooms.length→(u6 (b2y m k up h).rooms∧v4 (b2y m k up h).log)∧o5 (b2y m k up h).rooms≤o5 m.rooms+2∧(b2y m k up h).log=m.log:=fun k hk=>by
  have hkid:u6 (a4D m.rooms k h)∧o5 (a4D m.rooms k h)≤o5 m.rooms+1:=by
   unfold a4D
   by_cases h0:0≤k
   ·rw [decide_eq_true h0,cond_true]
    have hlt:k.toNat < m.rooms.length:=hk.resolve_left (by omega)
    have hx:=A2 hlt
    obtain ⟨x,hxe⟩:∃ x,x=m.rooms.getD k.toNat zRm:=⟨_,rfl⟩
    rw [← hxe] at hx ⊢
    have hm:=List.mem_of_getElem? hx
    have hy:=hq.2 _ hm
    have hc:=I6 j3 hm
    have hx1:j3 x=x.kids.length+B2 x.things+H9 x.tags:=rfl
    exact b4b (y:={ x with kids:=h::x.kids }) hq hx ⟨⟨by rw [List.length_cons];omega,fun _ _=>trivial⟩,hy.2.1,hy.2.2⟩ 1 (by show (h::x.kids).length+B2 x.things+H9 x.tags≤_;rw [List.length_cons];omega)
   ·rw [decide_eq_false h0,cond_false]
    exact ⟨hq,Nat.le_succ _⟩
  have hkl:=e5v m.rooms k h
  have:=f0e (i:=a8P (a4D m.rooms k h) h) (x:=E3 h up) hkid.1 (by omega) ⟨⟨Nat.zero_le _,fun _ hz=>by cases hz⟩,⟨Nat.zero_le _,fun _ hz=>by cases hz⟩,Nat.zero_le _⟩
  refine ⟨⟨this.1,hl⟩,?_,rfl⟩
  have e:=this.2
  have h0:j3 (E3 h up)=0:=rfl
  show o5 (V9 (a4D m.rooms k h) (a8P (a4D m.rooms k h) h) (E3 h up))≤_
  omega
 have tl:∀ k:Int,k < 0∨k.toNat < m.rooms.length→(u6 (b7j m k up h b).1.rooms∧v4 (b7j m k up h b).1.log)∧o5 (b7j m k up h b).1.rooms≤o5 m.rooms+2∧(b7j m k up h b).1.log=m.log:=fun k hk=>by
  unfold b7j
  cases b with
  | false=>exact triv
  | true =>
   rw [cond_true]
   cases decide (m.c.chunks < IntKind.i64.wrap (tkn m.rooms+1)) with
   | true=>exact triv
   | false=>exact put k hk
 unfold a5P
 by_cases eu:up=⟨0,0⟩
 ·rw [decide_eq_true eu,cond_true]
  exact tl _ (.inl (by decide))
 ·rw [decide_eq_false eu,cond_false]
  by_cases e:(rsv m up).2=0
  ·rw [decide_eq_true e,cond_true]
   cases decide (4≤dpn m.rooms m.rooms.length up) with
   | true=>exact triv
   | false=>exact tl _ (.inr (a3r e).2)
  ·rw [decide_eq_false e,cond_false]
   exact triv
end Go.Mach.F
namespace Go.Mach.F
open Go Go.Mach Go.Proofs.Tryz
theorem d8B {α:Type} (c:α→Nat) {l:List α} {j:Nat} {x y:α} (h:l[j]?=some x) (e:c y=c x):cntL c (l.set j y)=cntL c l:=by
 have:=c3f c (y:=y) h
 omega
theorem f0g {m:Ml} {r:Rf} {k:Int} {s:List UInt8} (hq:u6 m.rooms) (hl:v4 m.log):(u6 (a9d m r k s).1.rooms∧v4 (a9d m r k s).1.log)∧o5 (a9d m r k s).1.rooms≤o5 m.rooms∧(a9d m r k s).1.log=m.log:=by
 have hbm:=bm
 unfold a9d
 by_cases e:(thg m r).2=0
 ·have hk:=c0b e
  have hx:=A2 hk.1.2
  have ht:=a7V hk.2.2
  obtain ⟨x,hxe⟩:∃ x,x=m.rooms.getD (thg m r).1.toNat zRm:=⟨_,rfl⟩
  obtain ⟨u,hse⟩:∃ u,u=x.things.getD r.no.toNat ⟨[]⟩:=⟨_,rfl⟩
  have hb:thB m r=u.b:=by rw [hse,hxe];rfl
  rw [← hxe] at hx ht ⊢
  rw [← hse] at ht
  rw [hb]
  simp only [e,decide_true,cond_true]
  cases hpu:(pua u.b k s).2 with
  | false =>
   simp only [cond_false,and_true]
   exact ⟨⟨hq,hl⟩,Nat.le_refl _⟩
  | true =>
   simp only [cond_true,and_true]
   have hy:=hq.2 _ (List.mem_of_getElem? hx)
   have hpl:=c7m u.b k s
   have hz:=hy.2.1.2 _ (List.mem_of_getElem? ht)
   have hn:B2 (x.things.set r.no.toNat ⟨(pua u.b k s).1⟩)=B2 x.things:=by
    unfold B2
    rw [List.length_set,d8B (y:=⟨(pua u.b k s).1⟩) z8 ht (show (pua u.b k s).1.length=u.b.length from hpl)]
   have hs:=b4b (y:=c0d x r.no.toNat (pua u.b k s).1) hq hx ⟨hy.1,⟨by simp only [c0d,List.length_set];exact hy.2.1.1,fun z hz'=>by
    rcases List.mem_or_eq_of_mem_set hz' with h | rfl
    ·exact hy.2.1.2 _ h
    ·show (pua u.b k s).1.length≤BM
     rw [hpl]
     exact hz⟩,hy.2.2⟩ 0 (by unfold j3 c0d;dsimp only;rw [hn];exact Nat.le_refl _)
   exact ⟨⟨hs.1,hl⟩,hs.2⟩
 ·simp only [e,decide_false,cond_true,cond_false,and_true]
  exact ⟨⟨hq,hl⟩,Nat.le_refl _⟩
end Go.Mach.F
namespace Go.Mach.F
open Go Go.Mach Go.Proofs.Tryz
theorem c8s {α:Type} {c c':α→Nat} (h:∀ x,c x≤c' x):∀ l:List α,cntL c l≤cntL c' l
 | []=>Nat.le_refl _
 | x::l=>by
  have:=c8s h l
  have:=h x
  unfold cntL
  omega
theorem d3m:∀ l:List Rm,(allK l).length≤cntL j3 l
 | []=>Nat.le_refl _
 | x::l=>by
  have ih:=d3m l
  have e:allK (x::l)=x.kids ++ allK l:=rfl
  have e2:cntL j3 (x::l)=j3 x+cntL j3 l:=rfl
  have e3:j3 x=x.kids.length+B2 x.things+H9 x.tags:=rfl
  rw [e,List.length_append,e2]
  omega
theorem f0h {m:Ml} (g:ok_RmS m.rooms∧m6 m.log) (e:(A7 m:Int)≤1073741824):ok_RmS m.rooms∧m6 m.log∧(allK m.rooms).length < LM∧cntL (fun r=>r.tags.length) m.rooms≤LM:=by
 have hlm:=lm
 have h1:=d3m m.rooms
 have h2:=c8s (c:=fun r:Rm=>r.tags.length) (c':=j3) (fun x=>by unfold j3 H9;omega) m.rooms
 have h3:A7 m=m.rooms.length+cntL j3 m.rooms+H9 m.log:=rfl
 exact ⟨g.1,g.2,by omega,by omega⟩
theorem f0i (h:Hd) (w:Bool) (x:Rm):j3 (a1v h w x)≤j3 x:=by
 by_cases e:x.h=h
 ·rw [c7q e]
  exact Nat.zero_le _
 ·rw [c3e e]
  cases w with
  | false=>exact Nat.le_refl _
  | true =>
   have:=List.length_filter_le (fun y=>!decide (y=h)) x.kids
   unfold j3 a0Z
   dsimp only [cond_true]
   omega
end Go.Mach.F
namespace Go.Mach.F
open Go Go.Mach Go.Proofs.Tryz
theorem e7s {l:List Rm} (h:o5 l≤LM):ok_RmS l:=by
 have e:o5 l=l.length+cntL j3 l:=rfl
 refine ⟨by omega,fun x hx=>?_⟩
 have h1:=I6 j3 hx
 have h2:j3 x=a0Z x.kids+B2 x.things+H9 x.tags:=rfl
 have h3:a0Z x.kids=x.kids.length:=rfl
 have h4:B2 x.things=x.things.length+cntL z8 x.things:=rfl
 have h5:H9 x.tags=x.tags.length:=rfl
 refine ⟨⟨by omega,fun _ _=>trivial⟩,⟨by omega,fun y hy=>?_⟩,by unfold m6;omega⟩
 have h6:=I6 z8 hy
 have h7:z8 y=y.b.length:=rfl
 unfold o9
 omega
theorem d6D {m:Ml} {o:Op1} (g:ok_RmS m.rooms∧m6 m.log) (gb:o9 o.b) (e:(A7 m:Int)≤1073741824):((ok_RmS m.rooms∧m6 m.log)∧o9 o.b)∧(allK m.rooms).length < LM∧cntL (fun r=>r.tags.length) m.rooms≤LM:=by
 have:=f0h g e
 exact ⟨⟨g,gb⟩,this.2.2.1,this.2.2.2⟩
theorem d6E {m:Ml} {h:Hd} {sz al:Int} {fr:Bool} (hq:u6 m.rooms) (hl:v4 m.log) (e:(A7 m:Int)≤1073741824):ok_RmS (a0c m h sz al fr).1.rooms:=by
 have hlm:=lm
 have h3:A7 m=o5 m.rooms+H9 m.log:=rfl
 have:=(d6C (h:=h) (sz:=sz) (al:=al) (fr:=fr) hq hl).2.1
 exact e7s (by omega)
end Go.Mach.F
