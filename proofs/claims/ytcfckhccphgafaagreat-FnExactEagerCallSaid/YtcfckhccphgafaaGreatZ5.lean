/- Lemmas and definitions of the proof (Id Cn Co Ra Rb Rc Rd Rj Vc Vd Va Vb Rk Rl Wa Xa Tb Vx Ve Vf Qa Qb Ea Bj). Conditions: none. -/
import Derived.Test.YtcfckhccphgafaaGreatZ4
set_option linter.all false
namespace Go.Mach.F
open Go Go.Mach Go.Proofs.Tryz Go.IntKind
--=set_option maxRecDepth 100000
def dpn (l:List Rm):Nat→Hd→Nat
 | 0,_=>0
 | n+1,h=>match l[(rof l h).toNat]? with
  | some x=>bif decide (0≤rof l h) then dpn l n x.up+1 else 0
  | none=>0
theorem rof_ltD {l:List Rm} {h:Hd} (e:0≤rof l h):(rof l h).toNat < l.length:=by
 unfold rof at e ⊢
 cases hf:(List.range l.length).find? (fun i=>decide (l[i]?.map Rm.h=some h)) with
 | none=>rw [hf] at e;simp at e
 | some i =>
  have:=List.mem_of_find?_eq_some hf
  simpa using this
def ok_sDeepIn (x:Ml × Hd):Prop:=x.1.rooms.length≤LM
def ea_sDeepIn (x:Ml × Hd):List Arg:=[aR x.1.cs,aR x.2.cs]
def f_sDeepIn (x:Ml × Hd):Int:=((dpn x.1.rooms x.1.rooms.length x.2:Nat):Int)
noncomputable def e_sDeepIn:Ent:=ent [] ok_sDeepIn ea_sDeepIn (erI 2) f_sDeepIn
theorem ea_sDeepIn_inj (x y:Ml × Hd) (h:ea_sDeepIn x=ea_sDeepIn y):x=y:=by
 obtain ⟨m1,h1⟩:=x
 obtain ⟨m2,h2⟩:=y
 simp only [ea_sDeepIn,List.cons.injEq,and_true,true_and] at h
 obtain ⟨e0,e1⟩:=h
 obtain rfl:=Ml.cs_ext (aR_inj e0)
 obtain rfl:=Hd.cs_ext (aR_inj e1)
 rfl
theorem dm_sDeepIn {m:Ml} {h:Hd} (h0:ok_sDeepIn (m,h)):dom ok_sDeepIn ea_sDeepIn [(wMl m),(wHd h)]=true:=dom_ea (ea:=ea_sDeepIn) (x:=(m,h)) h0
theorem iv_sDeepIn {m:Ml} {h:Hd} (h0:ok_sDeepIn (m,h)):inv ok_sDeepIn ea_sDeepIn [(wMl m),(wHd h)]=(m,h):=inv_ea ea_sDeepIn_inj (x:=(m,h)) h0
theorem d_sDeepIn (m:Ml) (h:Hd):f_sDeepIn (m,h)=((dpn m.rooms m.rooms.length h:Nat):Int):=rfl
def i_sDeepIn:Nat:=98
noncomputable abbrev F_sDeepIn:Func:=f98
def kp_sDeepIn:List (Nat × List Nat):=[(0,[8,9,12,13]),(1,[8,9,12,13,20]),(2,[8,9,12,13,20,44]),(3,[8,9,12,13,20,24]),(4,[8,9,12,13,20,24,64]),(5,[16]),(6,[8,9,12,13,20,24]),(7,[8,9,12,13,20]),(8,[16])]
def ts_sDeepIn:List Nat:=[0,0]
def st_sDeepIn_1 (m:Ml) (h:Hd) (x13_0:Int) (x13_1:Int) (x20:Int):St:=[(8,⟨z0,[(false,[(C.pt (Pt.ptr 9 0 [] 8 0 0))])]⟩),(9,⟨z0,[(true,[.tr true (T.int i64 m.c.1),.tr true (T.int i64 m.c.2),.tr true (T.int i64 m.c.3),.tr true (T.int i64 m.c.4),.tr true (T.int i64 m.c.5),.tr true (T.int i64 m.c.6),.tr false (eL 11 Rm.cs m.2),.tr false (eL 1 rowI m.3)])]⟩),(12,⟨z0,[(false,[(C.pt (Pt.ptr 13 0 [] 2 0 0))])]⟩),(13,⟨z0,[(true,[.tr true (T.int i64 x13_0),.tr true (T.int i64 x13_1)])]⟩),(20,⟨z0,[(false,[.tr true (T.int i64 x20)])]⟩)]
def ex_sDeepIn_1_1 (m:Ml) (h:Hd) (x13_0:Int) (x13_1:Int) (x20:Int):St:=[(16,⟨z0,[(false,[.tr true (T.int i64 x20)])]⟩)]
def ex_sDeepIn_1_2 (m:Ml) (h:Hd) (x13_0:Int) (x13_1:Int) (x20:Int):St:=[(8,⟨z0,[(false,[(C.pt (Pt.ptr 9 0 [] 8 0 0))])]⟩),(9,⟨z0,[(true,[.tr true (T.int i64 m.c.1),.tr true (T.int i64 m.c.2),.tr true (T.int i64 m.c.3),.tr true (T.int i64 m.c.4),.tr true (T.int i64 m.c.5),.tr true (T.int i64 m.c.6),.tr false (eL 11 Rm.cs m.2),.tr false (eL 1 rowI m.3)])]⟩),(12,⟨z0,[(false,[(C.pt (Pt.ptr 13 0 [] 2 0 0))])]⟩),(13,⟨z0,[(true,[.tr true (T.int i64 x13_0),.tr true (T.int i64 x13_1)])]⟩),(20,⟨z0,[(false,[.tr true (T.int i64 x20)])]⟩),(44,⟨z0,[]⟩)]
noncomputable abbrev tb10:Sems:=tabS [(i_sRoomOf,e_sRoomOf)]
theorem round_sDeepIn_1 (m:Ml) (h:Hd) (x13_0:Int) (x13_1:Int) (x20:Int) (n:Nat) (K:Ex→St→Res):roundAt prog tb10 kp_sDeepIn F_sDeepIn [1,1,0,0] n (st_sDeepIn_1 m h x13_0 x13_1 x20) K=(bif decide (x20 < (↑m.2.length:Int)) then gd (dom ok_sRoomOf ea_sRoomOf [(wMl m),(0,true,[C.tr false (T.int i64 x13_0),C.tr false (T.int i64 x13_1)])])<|bif decide (f_sRoomOf (inv ok_sRoomOf ea_sRoomOf [(wMl m),(0,true,[C.tr false (T.int i64 x13_0),C.tr false (T.int i64 x13_1)])]) < 0) then K .ret (ex_sDeepIn_1_1 m h x13_0 x13_1 x20) else gd (decide (0≤f_sRoomOf (inv ok_sRoomOf ea_sRoomOf [(wMl m),(0,true,[C.tr false (T.int i64 x13_0),C.tr false (T.int i64 x13_1)])]))&&((f_sRoomOf (inv ok_sRoomOf ea_sRoomOf [(wMl m),(0,true,[C.tr false (T.int i64 x13_0),C.tr false (T.int i64 x13_1)])])).toNat.blt m.2.length&&true))<|gd (T.isI i64 (atL Rm.cs m.2 (f_sRoomOf (inv ok_sRoomOf ea_sRoomOf [(wMl m),(0,true,[C.tr false (T.int i64 x13_0),C.tr false (T.int i64 x13_1)])])).toNat 2)&&T.isI i64 (atL Rm.cs m.2 (f_sRoomOf (inv ok_sRoomOf ea_sRoomOf [(wMl m),(0,true,[C.tr false (T.int i64 x13_0),C.tr false (T.int i64 x13_1)])])).toNat 3))<|K .normal (st_sDeepIn_1 m h ((atL Rm.cs m.2 (f_sRoomOf (inv ok_sRoomOf ea_sRoomOf [(wMl m),(0,true,[C.tr false (T.int i64 x13_0),C.tr false (T.int i64 x13_1)])])).toNat 2).toI) ((atL Rm.cs m.2 (f_sRoomOf (inv ok_sRoomOf ea_sRoomOf [(wMl m),(0,true,[C.tr false (T.int i64 x13_0),C.tr false (T.int i64 x13_1)])])).toNat 3).toI) (i64.wrap (x20+1))) else K (.exit 0) (ex_sDeepIn_1_2 m h x13_0 x13_1 x20)):=by kernel_rfl
theorem post_sDeepIn_1_1 (m:Ml) (h:Hd) (x13_0:Int) (x13_1:Int) (x20:Int) (n:Nat):contAt prog tb10 kp_sDeepIn F_sDeepIn ts_sDeepIn [1,1,0,0] [] n .ret (ex_sDeepIn_1_1 m h x13_0 x13_1 x20)=(some ([(false,[.tr true (T.int i64 x20)])],[(false,[]),(false,[])])):=by kernel_rfl
theorem post_sDeepIn_1_2 (m:Ml) (h:Hd) (x13_0:Int) (x13_1:Int) (x20:Int) (n:Nat):contAt prog tb10 kp_sDeepIn F_sDeepIn ts_sDeepIn [1,1,0,0] [] n (.exit 0) (ex_sDeepIn_1_2 m h x13_0 x13_1 x20)=(some ([(false,[.tr true (T.int i64 x20)])],[(false,[]),(false,[])])):=by kernel_rfl
theorem pre_sDeepIn (m:Ml) (h:Hd) (n:Nat):body prog tb10 kp_sDeepIn n F_sDeepIn [aR m.cs,aR h.cs]=(loopAt prog tb10 kp_sDeepIn F_sDeepIn [1,1,0,0] n n (st_sDeepIn_1 m h (h.1) (h.2) (0)) (contAt prog tb10 kp_sDeepIn F_sDeepIn ts_sDeepIn [1,1,0,0] [] n)):=by kernel_rfl
theorem loop_sDeepIn (m:Ml) (h0:Hd) (hl:m.rooms.length≤LM) (n mm:Nat):∀ (k i:Nat) (h:Hd),i+k=m.rooms.length→loopAt prog tb10 kp_sDeepIn F_sDeepIn [1,1,0,0] n (k+1+mm) (st_sDeepIn_1 m h0 h.slot h.gen (i:Nat)) (contAt prog tb10 kp_sDeepIn F_sDeepIn ts_sDeepIn [1,1,0,0] [] n)=some (erI 2 ((i+dpn m.rooms k h:Nat):Int)):=by
 have hlm:=lm
 intro k
 induction k with
 | zero =>
  intro i h hi
  have e1:0+1+mm=mm+1:=by omega
  have e2:i=m.rooms.length:=by omega
  subst e2
  rw [e1,loopAt_succ,round_sDeepIn_1]
  simp only [lt_d,Nat.lt_irrefl,decide_false,cond_false]
  exact (post_sDeepIn_1_2 m h0 _ _ _ n).trans rfl
 | succ k ih =>
  intro i h hi
  have e1:k+1+1+mm=(k+1+mm)+1:=by omega
  have hi':i < m.rooms.length:=by omega
  rw [e1,loopAt_succ,round_sDeepIn_1]
  by_cases e:0≤rof m.rooms h
  ·have hx:=List.getElem?_eq_getElem (rof_ltD e)
   obtain ⟨x,hxe⟩:∃ x,x=m.rooms[(rof m.rooms h).toNat]'(rof_ltD e):=⟨_,rfl⟩
   rw [← hxe] at hx
   have hb:=rof_ltD e
   have c:ok_sRoomOf (m,h):=hl
   have e':¬ rof m.rooms h < 0:=by omega
   simp (disch:=omega) only [rsx0,hi',dm_sRoomOf c,iv_sRoomOf c,d_sRoomOf,decide_eq_false e',cond_false,decide_eq_true e,blt_d,decide_eq_true hb,atL_of hx,Rm.cs,wrapS]
   have e3:dpn m.rooms (k+1) h=dpn m.rooms k x.up+1:=by
    simp only [dpn,hx,decide_eq_true e,cond_true]
   rw [e3,show i+(dpn m.rooms k x.up+1)=i+1+dpn m.rooms k x.up by omega]
   exact ih (i+1) x.up (by omega)
  ·have e':rof m.rooms h < 0:=by omega
   have e3:dpn m.rooms (k+1) h=0:=by
    unfold dpn
    cases m.rooms[(rof m.rooms h).toNat]? with
    | none=>rfl
    | some x=>simp only [decide_eq_false e,cond_false]
   rw [e3,Nat.add_zero]
   have c:ok_sRoomOf (m,h):=hl
   simp only [rsx0,hi',dm_sRoomOf c,iv_sRoomOf c,d_sRoomOf,decide_eq_true e',decide_eq_false e,cond_true,cond_false]
   exact (post_sDeepIn_1_1 m h0 _ _ _ n).trans rfl
theorem body_sDeepIn (m:Ml) (h:Hd) (h0:ok_sDeepIn (m,h)):body prog tb10 kp_sDeepIn (m.rooms.length+1) F_sDeepIn (ea_sDeepIn (m,h))=some (erI 2 (f_sDeepIn (m,h))):=by
 have c:ok_sRoomOf (m,h):=h0
 unfold ea_sDeepIn f_sDeepIn
 try dsimp only
 rw [pre_sDeepIn]
 try simp only [eL_T,dm_sRoomOf c,iv_sRoomOf c,d_sRoomOf,gdt]
 have:=loop_sDeepIn m h h0 (m.rooms.length+1) 0 m.rooms.length 0 h (by omega)
 rw [Nat.zero_add] at this
 exact this
theorem s_sDeepIn:EntOk prog i_sDeepIn e_sDeepIn:=ent_ok ea_sDeepIn_inj fun x hx =>
 body_sound (φ:=tb10) (tabS_cons s_sRoomOf tabS_nil) mixed (kp:=kp_sDeepIn) (n:=x.1.rooms.length+1) func98 (c:=bodyOf F_sDeepIn) (by kernel_rfl) (body_sDeepIn x.1 x.2 hx) (name_ok (by kernel_rfl))
def ok_iDeepIn (x:Ml × Hd):Prop:=x.1.rooms.length≤LM
def ea_iDeepIn (x:Ml × Hd):List Arg:=[aR x.1.cs,aR x.2.cs]
def f_iDeepIn (x:Ml × Hd):Int:=((dpn x.1.rooms x.1.rooms.length x.2:Nat):Int)
noncomputable def e_iDeepIn:Ent:=ent [] ok_iDeepIn ea_iDeepIn (erI 2) f_iDeepIn
theorem ea_iDeepIn_inj (x y:Ml × Hd) (h:ea_iDeepIn x=ea_iDeepIn y):x=y:=by
 obtain ⟨m1,h1⟩:=x
 obtain ⟨m2,h2⟩:=y
 simp only [ea_iDeepIn,List.cons.injEq,and_true,true_and] at h
 obtain ⟨e0,e1⟩:=h
 obtain rfl:=Ml.cs_ext (aR_inj e0)
 obtain rfl:=Hd.cs_ext (aR_inj e1)
 rfl
theorem dm_iDeepIn {m:Ml} {h:Hd} (h0:ok_iDeepIn (m,h)):dom ok_iDeepIn ea_iDeepIn [(wMl m),(wHd h)]=true:=dom_ea (ea:=ea_iDeepIn) (x:=(m,h)) h0
theorem iv_iDeepIn {m:Ml} {h:Hd} (h0:ok_iDeepIn (m,h)):inv ok_iDeepIn ea_iDeepIn [(wMl m),(wHd h)]=(m,h):=inv_ea ea_iDeepIn_inj (x:=(m,h)) h0
theorem d_iDeepIn (m:Ml) (h:Hd):f_iDeepIn (m,h)=((dpn m.rooms m.rooms.length h:Nat):Int):=rfl
def i_iDeepIn:Nat:=113
noncomputable abbrev F_iDeepIn:Func:=f113
def kp_iDeepIn:List (Nat × List Nat):=[(0,[8,9,12,13]),(1,[8,9,12,13,20]),(2,[8,9,20,24]),(3,[8,9,20,24,72]),(4,[8,9,20,24]),(5,[8,9,20,24]),(6,[16])]
def ts_iDeepIn:List Nat:=[0,0]
def st_iDeepIn_1 (m:Ml) (h:Hd) (x20:Int) (x24:Int):St:=[(8,⟨z0,[(false,[(C.pt (Pt.ptr 9 0 [] 8 0 0))])]⟩),(9,⟨z0,[(true,[.tr true (T.int i64 m.c.1),.tr true (T.int i64 m.c.2),.tr true (T.int i64 m.c.3),.tr true (T.int i64 m.c.4),.tr true (T.int i64 m.c.5),.tr true (T.int i64 m.c.6),.tr false (eL 11 Rm.cs m.2),.tr false (eL 1 rowI m.3)])]⟩),(20,⟨z0,[(false,[.tr true (T.int i64 x20)])]⟩),(24,⟨z0,[(false,[.tr true (T.int i64 x24)])]⟩)]
def ex_iDeepIn_1_1 (m:Ml) (h:Hd) (x20:Int) (x24:Int):St:=[(8,⟨z0,[(false,[(C.pt (Pt.ptr 9 0 [] 8 0 0))])]⟩),(9,⟨z0,[(true,[.tr true (T.int i64 m.c.1),.tr true (T.int i64 m.c.2),.tr true (T.int i64 m.c.3),.tr true (T.int i64 m.c.4),.tr true (T.int i64 m.c.5),.tr true (T.int i64 m.c.6),.tr false (eL 11 Rm.cs m.2),.tr false (eL 1 rowI m.3)])]⟩),(20,⟨z0,[(false,[.tr true (T.int i64 x20)])]⟩),(24,⟨z0,[(false,[.tr true (T.int i64 x24)])]⟩),(72,⟨z0,[]⟩)]
noncomputable abbrev tb11:Sems:=tabS [(i_iRoomOf,e_iRoomOf)]
theorem round_iDeepIn_1 (m:Ml) (h:Hd) (x20:Int) (x24:Int) (n:Nat) (K:Ex→St→Res):roundAt prog tb11 kp_iDeepIn F_iDeepIn [1,1,0,1,0] n (st_iDeepIn_1 m h x20 x24) K=(bif decide (0≤x24) then bif decide (x20 < (↑m.2.length:Int)) then gd (decide (0≤x24)&&(x24.toNat.blt m.2.length&&true))<|gd (T.isI i64 (atL Rm.cs m.2 x24.toNat 2)&&T.isI i64 (atL Rm.cs m.2 x24.toNat 3))<|gd (dom ok_iRoomOf ea_iRoomOf [(wMl m),(0,true,[C.tr false (T.int i64 (atL Rm.cs m.2 x24.toNat 2).toI),C.tr false (T.int i64 (atL Rm.cs m.2 x24.toNat 3).toI)])])<|K .normal (st_iDeepIn_1 m h (i64.wrap (x20+1)) (f_iRoomOf (inv ok_iRoomOf ea_iRoomOf [(wMl m),(0,true,[C.tr false (T.int i64 (atL Rm.cs m.2 x24.toNat 2).toI),C.tr false (T.int i64 (atL Rm.cs m.2 x24.toNat 3).toI)])]))) else K (.exit 0) (ex_iDeepIn_1_1 m h x20 x24) else K (.exit 0) (ex_iDeepIn_1_1 m h x20 x24)):=by kernel_rfl
theorem post_iDeepIn_1_1 (m:Ml) (h:Hd) (x20:Int) (x24:Int) (n:Nat):contAt prog tb11 kp_iDeepIn F_iDeepIn ts_iDeepIn [1,1,0,1,0] [] n (.exit 0) (ex_iDeepIn_1_1 m h x20 x24)=(some ([(false,[.tr true (T.int i64 x20)])],[(false,[]),(false,[])])):=by kernel_rfl
theorem pre_iDeepIn (m:Ml) (h:Hd) (n:Nat):body prog tb11 kp_iDeepIn n F_iDeepIn [aR m.cs,aR h.cs]=(gd (dom ok_iRoomOf ea_iRoomOf [(wMl m),(wHd h)])<|loopAt prog tb11 kp_iDeepIn F_iDeepIn [1,1,0,1,0] n n (st_iDeepIn_1 m h (0) (f_iRoomOf (inv ok_iRoomOf ea_iRoomOf [(wMl m),(wHd h)]))) (contAt prog tb11 kp_iDeepIn F_iDeepIn ts_iDeepIn [1,1,0,1,0] [] n)):=by kernel_rfl
theorem loop_iDeepIn (m:Ml) (h0:Hd) (hl:m.rooms.length≤LM) (n mm:Nat):∀ (k i:Nat) (h:Hd),i+k=m.rooms.length→loopAt prog tb11 kp_iDeepIn F_iDeepIn [1,1,0,1,0] n (k+1+mm) (st_iDeepIn_1 m h0 (i:Nat) (rof m.rooms h)) (contAt prog tb11 kp_iDeepIn F_iDeepIn ts_iDeepIn [1,1,0,1,0] [] n)=some (erI 2 ((i+dpn m.rooms k h:Nat):Int)):=by
 have hlm:=lm
 intro k
 induction k with
 | zero =>
  intro i h hi
  have e1:0+1+mm=mm+1:=by omega
  have e2:i=m.rooms.length:=by omega
  subst e2
  rw [e1,loopAt_succ,round_iDeepIn_1]
  simp only [lt_d,Nat.lt_irrefl,decide_false,cond_false]
  by_cases e:0≤rof m.rooms h
  ·simp only [decide_eq_true e,cond_true]
   exact (post_iDeepIn_1_1 m h0 _ _ n).trans rfl
  ·simp only [decide_eq_false e,cond_false]
   exact (post_iDeepIn_1_1 m h0 _ _ n).trans rfl
 | succ k ih =>
  intro i h hi
  have e1:k+1+1+mm=(k+1+mm)+1:=by omega
  have hi':i < m.rooms.length:=by omega
  rw [e1,loopAt_succ,round_iDeepIn_1]
  by_cases e:0≤rof m.rooms h
  ·have hx:=List.getElem?_eq_getElem (rof_ltD e)
   obtain ⟨x,hxe⟩:∃ x,x=m.rooms[(rof m.rooms h).toNat]'(rof_ltD e):=⟨_,rfl⟩
   rw [← hxe] at hx
   have hb:=rof_ltD e
   have c:ok_iRoomOf (m,x.up):=hl
   have e':¬ rof m.rooms h < 0:=by omega
   simp (disch:=omega) only [rsx0,hi',dm_iRoomOf c,iv_iRoomOf c,d_iRoomOf,decide_eq_false e',cond_false,decide_eq_true e,blt_d,decide_eq_true hb,atL_of hx,Rm.cs,wrapS]
   have e3:dpn m.rooms (k+1) h=dpn m.rooms k x.up+1:=by
    simp only [dpn,hx,decide_eq_true e,cond_true]
   rw [e3,show i+(dpn m.rooms k x.up+1)=i+1+dpn m.rooms k x.up by omega]
   exact ih (i+1) x.up (by omega)
  ·have e':rof m.rooms h < 0:=by omega
   have e3:dpn m.rooms (k+1) h=0:=by
    unfold dpn
    cases m.rooms[(rof m.rooms h).toNat]? with
    | none=>rfl
    | some x=>simp only [decide_eq_false e,cond_false]
   rw [e3,Nat.add_zero]
   have c:ok_iRoomOf (m,h):=hl
   simp only [rsx0,hi',dm_iRoomOf c,iv_iRoomOf c,d_iRoomOf,decide_eq_true e',decide_eq_false e,cond_true,cond_false]
   exact (post_iDeepIn_1_1 m h0 _ _ n).trans rfl
theorem body_iDeepIn (m:Ml) (h:Hd) (h0:ok_iDeepIn (m,h)):body prog tb11 kp_iDeepIn (m.rooms.length+1) F_iDeepIn (ea_iDeepIn (m,h))=some (erI 2 (f_iDeepIn (m,h))):=by
 have c:ok_iRoomOf (m,h):=h0
 unfold ea_iDeepIn f_iDeepIn
 try dsimp only
 rw [pre_iDeepIn]
 try simp only [eL_T,dm_iRoomOf c,iv_iRoomOf c,d_iRoomOf,gdt]
 have:=loop_iDeepIn m h h0 (m.rooms.length+1) 0 m.rooms.length 0 h (by omega)
 rw [Nat.zero_add] at this
 exact this
theorem s_iDeepIn:EntOk prog i_iDeepIn e_iDeepIn:=ent_ok ea_iDeepIn_inj fun x hx =>
 body_sound (φ:=tb11) (tabS_cons s_iRoomOf tabS_nil) mixed (kp:=kp_iDeepIn) (n:=x.1.rooms.length+1) func113 (c:=bodyOf F_iDeepIn) (by kernel_rfl) (body_iDeepIn x.1 x.2 hx) (name_ok (by kernel_rfl))
end Go.Mach.F
namespace Go.Mach
open Go
section
variable {P:Program} {φ:Sems}
theorem S.free {E σ a w} (h:S E σ a w) (t:Nat) (x:Value) (hr:(σ.get (slot t)).rows=[]):S E σ (a.put (some t) x) w:=by
 obtain ⟨G,hG,hp⟩:=h
 refine ⟨G,⟨hG.nd,hG.inj,hG.rng,hG.os,hG.tape,hG.output,hG.size,hG.kept,fun t'=>?_,hG.boxes,hG.exts,hG.xbox,hG.defers,?_,hG.here⟩,hp⟩
 ·by_cases e:t'=t
  ·subst e
   rw [hr]
   trivial
  ·have:=hG.slots t'
   have e2:(a.put (some t) x).tmps.getD t' undef=a.tmps.getD t' undef:=by
    simp only [Act.put,Array.getD_eq_getD_getElem?]
    rw [Array.getElem?_setIfInBounds_ne (fun h=>e h.symm)]
   rw [e2]
   exact this
 ·have:=hG.tm
  simpa [Act.put] using this
/-- What a function's code computes if it ends in a return. -/
def bodyR (P:Program) (φ:Sems) (kp:List (Nat × List Nat)) (n:Nat) (fn:Func) (X:Code) (args:List Arg):Res :=
 exec P φ (kpOf kp) fn.ntmps none n X (initA fn.ntmps 0 args) fun e σ=>match e with
  | .ret=>resultsK P φ none fn (args.map (·.1)) σ fun rows outs=>some (rows,outs)
  | _=>none
theorem ret_sound (hφ:SemsOk P φ) (hm:P.follows .mixedOrders=true) {kp:List (Nat × List Nat)} {n:Nat} {fn:Func} {X:Code} {args:List Arg} {rs outs:List Row} (h:bodyR P φ kp n fn X args=some (rs,outs))
  {w:World} {vals:Array Value} {γ:Nat→Gh} (hargs:ArgsX w args vals γ) {a:Act} (hS:S ⟨w,Dof γ,fn.ntmps,fun i=>vals.getD i undef,fun t=>initG fn.ntmps args γ (box t) []⟩ (initA fn.ntmps 0 args) a w) :
  X.wp P (fun e a w'=>e=.ret∧bodyPost P fn (fun e w'=>∃ v δ,e=.returned v∧GrewD w w' (Dof γ)∧ResX w w' γ args vals rs outs v δ) .ret a w') a w:=by
 unfold bodyR at h
 have h':=cast (exec_nat (P:=P) (φ:=φ) (fun o:Option (List Row × List Row)=>o=some (rs,outs)) (z:=none) (z':=False) (by simp) (kpOf kp) fn.ntmps n X (initA fn.ntmps 0 args) fun e σ=>match e with
  | .ret=>resultsK P φ none fn (args.map (·.1)) σ fun rows outs=>some (rows,outs)
  | _=>none) h
 have hxb:∀ i x,args[i]?=some x→x.1=2→(fun t=>initG fn.ntmps args γ (box t) []) (fn.ntmps+i)=γ i []:=fun i x hi ht=>by
  simp only
  rw [initG_box,tagOf_eq hi,if_pos ht]
 refine cond_sound hm (E:=⟨w,Dof γ,fn.ntmps,fun i=>vals.getD i undef,fun t=>initG fn.ntmps args γ (box t) []⟩) hφ X _ _ _ _ _ h' hS fun e σ' a' w' hK hS=>?_
 cases e with
 | exit i=>cases hK
 | normal=>cases hK
 | ret=>exact ⟨rfl,post_sound hargs hxb hS hK⟩
theorem clone_sound (hφ : SemsOk P φ) (hm : P.follows .mixedOrders = true) {kp : List (Nat × List Nat)} {n : Nat} {f : FuncId} {fn : Func} (hf : P.funcs[f]? = some fn) (hN : fn.name ≠ "runtime.NumGoroutine") {o0 o1 o2 : Oper} {A B : Code}
  (hc:fn.body=some (.seq (.region 0 #[o0] false) (.seq (.seq (.region 1 #[o1,o2] false) (.cond (.tmp 4) A .skip)) B)))
  (g0:o0.guard=none) (g1:o1.guard=none) (g2:o2.guard=none)
  (h0:∀ a w K Q,K (a.put (some 2) (.slice none 0 0)) w→o0.wp P a w K Q)
  (h1:∀ a w K Q,K (a.put (some 3) (a.eval (.tmp 0))) w→o1.wp P a w K Q)
  (h2:∀ a w K Q Ad k c,a.eval (.tmp 3)=.slice Ad k c→K (a.put (some 4) (.bool Ad.isNone)) w→o2.wp P a w K Q)
  (hnt:5≤fn.ntmps) {m k:Nat} {ft:Nat→Nat→T} {rs outs:List Row}
  (hA:k=0→bodyR P φ kp n fn A [F.aT (.arr m k ft)]=some (rs,outs))
  (hB:bodyR P φ kp n fn B [F.aT (.arr m k ft)]=some (rs,outs)):Sound P f [F.aT (.arr m k ft)] rs outs:=by
 refine ⟨⟨fn,hf,by rw [hc];rfl,hN⟩,fun w vals γ hargs=>?_⟩
 have hS:=S.init (nt:=fn.ntmps) hargs (by simp only [List.length_cons,List.length_nil];omega)
 obtain ⟨v,hv,hok⟩:=hargs.arg 0 _ rfl
 have hr:RelIm w (calleeEnv w (Dof γ)).N (.arr m k ft) v:=by
  unfold ArgOk at hok
  rw [if_neg (by simp [F.aT]),if_neg (by simp [F.aT])] at hok
  exact hok (fun _=>noG) fun _=>z0
 obtain ⟨Ad,cap,rfl,hcap,hpos⟩:=hr
 refine calls_of_wp hf hc ?_
 have hsz:=hargs.size
 simp only [List.length_cons,List.length_nil] at hsz
 generalize ha:(⟨vals ++ Array.replicate (fn.ntmps - vals.size) undef,[]⟩:Act)=a at hS ⊢
 have hat:a.tmps.size=fn.ntmps:=by rw [← ha];simp;omega
 have ha0:a.eval (.tmp 0)=.slice Ad k cap:=by
  rw [← ha]
  simp only [Act.eval,Array.getD_eq_getD_getElem?]
  rw [Array.getElem?_append_left (by omega),hv]
  rfl
 have want:∀ (o:Oper) t,o.guard=none→Region.wanted o t=true:=fun o t h=>by simp [Region.wanted,h]
 refine wp_seq (wp_region ?_)
 show wpOps P #[o0] _ [0] a w
 simp only [wpOps,List.getElem?_toArray,List.getElem?_cons_zero,want _ _ g0,if_true]
 refine .inl (h0 _ _ _ _ ?_)
 refine wp_seq (wp_seq (wp_region ?_))
 show wpOps P #[o1,o2] _ [0,1] _ w
 simp only [wpOps,List.getElem?_toArray,List.getElem?_cons_zero,List.getElem?_cons_succ,want _ _ g1,want _ _ g2,if_true]
 refine .inl (h1 _ _ _ _ (.inl (h2 _ _ _ _ Ad k cap ?_ ?_)))
 ·have e1:(a.put (some 2) (.slice none 0 0)).eval (.tmp 0)=.slice Ad k cap:=by
   rw [← ha0]
   simp [Act.put,Act.eval,Array.getD_eq_getD_getElem?]
  rw [e1]
  have h3:3 < a.tmps.size:=by omega
  simp [Act.put,Act.eval,Array.getD_eq_getD_getElem?,Array.getElem?_setIfInBounds,h3]
 ·generalize hx:(a.put (some 2) (Value.slice none 0 0)).eval (.tmp 0)=x
  have hS2:S ⟨w,Dof γ,fn.ntmps,fun i=>vals.getD i undef,fun t=>initG fn.ntmps [F.aT (.arr m k ft)] γ (box t) []⟩ (initA fn.ntmps 0 [F.aT (.arr m k ft)]) ((((a.put (some 2) (.slice none 0 0))).put (some 3) x).put (some 4) (.bool Ad.isNone)) w :=
   ((hS.free 2 _ rfl).free 3 _ rfl).free 4 _ rfl
  have e4:((((a.put (some 2) (Value.slice none 0 0))).put (some 3) x).put (some 4) (.bool Ad.isNone)).eval (.tmp 4)=.bool Ad.isNone:=by
   have h4:4 < a.tmps.size:=by omega
   simp [Act.put,Act.eval,Array.getD_eq_getD_getElem?,Array.getElem?_setIfInBounds,h4]
  refine wp_cond e4 ?_
  cases Ad with
  | none =>
   have hk:k=0:=by
    rcases Nat.eq_zero_or_pos k with h | h
    ·exact h
    ·obtain ⟨b,off,he,_⟩:=hpos h
     cases he
   refine wp_mono (ret_sound hφ hm (hA hk) hargs hS2) fun e a' w' hq=>?_
   obtain ⟨rfl,hq⟩:=hq
   exact hq
  | some ad =>
   refine wp_skip ?_
   refine wp_mono (ret_sound hφ hm hB hargs hS2) fun e a' w' hq=>?_
   obtain ⟨rfl,hq⟩:=hq
   exact hq
end
end Go.Mach
namespace Go.Mach.F
open Go Go.Mach Go.Proofs.Tryz
--=set_option maxRecDepth 100000
theorem plain_I (l:List Int):plainF (atL rowI l)=atL rowI l:=by
 funext j k
 unfold plainF atL
 cases l[j]? with
 | none=>rfl
 | some x=>cases k <;> rfl
theorem plain_B (l:List UInt8):plainF (atL rowB l)=atL rowB l:=by
 funext j k
 unfold plainF atL
 cases l[j]? with
 | none=>rfl
 | some x=>cases k <;> rfl
theorem plain_Hd (l:List Hd):plainF (atL Hd.cs l)=atL Hd.cs l:=by
 funext j k
 unfold plainF atL
 cases l[j]? with
 | none=>rfl
 | some x=>rcases k with _ | _ | k <;> rfl
theorem app0 (f g:Nat→Nat→T):appF 0 f g=g:=by
 funext j k
 unfold appF
 rfl
def i_clB:Nat:=165
def ok_clB (l:List UInt8):Prop:=l.length≤LM
def ea_clB (l:List UInt8):List Arg:=[aT (eB l)]
def f_clB (l:List UInt8):List UInt8:=l
noncomputable def e_clB:Ent:=ent [] ok_clB ea_clB (fun l=>erT 1 (eB l)) f_clB
theorem ea_clB_inj (x y:List UInt8) (h:ea_clB x=ea_clB y):x=y:=by
 simp only [ea_clB,aT,List.cons.injEq,Prod.mk.injEq,true_and,and_true,C.tr.injEq] at h
 exact eB_inj h
theorem dm_clB {l:List UInt8} (h:ok_clB l):dom ok_clB ea_clB [(0,false,[C.tr false (T.arr 1 l.length (atL rowB l))])]=true:=dom_ea (ea:=ea_clB) (x:=l) h
theorem iv_clB {l:List UInt8} (h:ok_clB l):inv ok_clB ea_clB [(0,false,[C.tr false (T.arr 1 l.length (atL rowB l))])]=l:=inv_ea ea_clB_inj (x:=l) h
theorem d_clB (l:List UInt8):f_clB l=l:=rfl
theorem br_clB (l:List UInt8):bodyR prog (tabS []) [(0,[0]),(1,[0,16]),(2,[8]),(3,[8])] 0 f165 (sub (bodyOf f165) [1,1]) [aT (eB l)]=(
 gd (((0+l.length) * 1).ble 70368744177664&&(0+l.length).ble 70368744177664) <|
 gd ((0+l.length).ble (0+l.length)&&true) <|
 gd ((0+l.length).ble (0+l.length)&&true) <|
 some ([(false,[.tr true (.arr (1) (0+l.length) (appF 0 (fun j k=>T.hole) (plainF (atL rowB l))))])],[(false,[])])):=by kernel_rfl
theorem s_clB:EntOk prog i_clB e_clB:=ent_ok ea_clB_inj fun l hl=>by
 have hlm:=lm
 have hl':l.length≤LM:=hl
 have hb:=br_clB l
 simp only [Nat.zero_add,ble_d,Nat.le_refl,decide_true,Bool.and_true,gdt,app0,plain_B] at hb
 rw [decide_eq_true (show l.length * 1≤70368744177664 by omega),decide_eq_true (show l.length≤70368744177664 by omega)] at hb
 simp only [Bool.and_true,gdt] at hb
 refine clone_sound (φ:=tabS []) tabS_nil mixed (kp:=[(0,[0]),(1,[0,16]),(2,[8]),(3,[8])]) (n:=0) func165 (name_ok (by kernel_rfl)) (hc:=rfl) rfl rfl rfl (fun a w K Q h=>wp_value rfl h) (fun a w K Q h=>wp_value rfl h) (fun a w K Q Ad k c he h=>?_) (by decide) (fun hk=>?_) hb
 ·cases Ad with
  | none=>exact wp_value (v:=.bool true) (w':=w) (by simp only [execOp,he];kernel_rfl) h
  | some ad=>exact wp_value (v:=.bool false) (w':=w) (by simp only [execOp,he];kernel_rfl) h
 ·have:l=[]:=List.length_eq_zero_iff.1 hk
  subst this
  have ha:bodyR prog (tabS []) [(0,[0]),(1,[0,16]),(2,[8]),(3,[8])] 0 f165 (sub (bodyOf f165) [1,0,1,0]) [aT (eB [])]=some ([(false,[.tr true (.arr 1 0 fun _ _=>.hole)])],[(false,[])]):=by kernel_rfl
  exact ha
def i_clH:Nat:=166
def ok_clH (l:List Hd):Prop:=l.length≤LM
def ea_clH (l:List Hd):List Arg:=[aT (eL 2 Hd.cs l)]
def f_clH (l:List Hd):List Hd:=l
noncomputable def e_clH:Ent:=ent [] ok_clH ea_clH (fun l=>erT 1 (eL 2 Hd.cs l)) f_clH
theorem ea_clH_inj (x y:List Hd) (h:ea_clH x=ea_clH y):x=y:=by
 simp only [ea_clH,aT,List.cons.injEq,Prod.mk.injEq,true_and,and_true,C.tr.injEq] at h
 exact eL_inj Hd.cs_inj h
theorem dm_clH {l:List Hd} (h:ok_clH l):dom ok_clH ea_clH [(0,false,[C.tr false (T.arr 2 l.length (atL Hd.cs l))])]=true:=dom_ea (ea:=ea_clH) (x:=l) h
theorem iv_clH {l:List Hd} (h:ok_clH l):inv ok_clH ea_clH [(0,false,[C.tr false (T.arr 2 l.length (atL Hd.cs l))])]=l:=inv_ea ea_clH_inj (x:=l) h
theorem d_clH (l:List Hd):f_clH l=l:=rfl
theorem br_clH (l:List Hd):bodyR prog (tabS []) [(0,[0]),(1,[0,16]),(2,[8]),(3,[8])] 0 f166 (sub (bodyOf f166) [1,1]) [aT (eL 2 Hd.cs l)]=(
 gd (((0+l.length) * 16).ble 70368744177664&&(0+l.length).ble 70368744177664) <|
 gd ((0+l.length).ble (0+l.length)&&true) <|
 gd ((0+l.length).ble (0+l.length)&&true) <|
 some ([(false,[.tr true (.arr (2) (0+l.length) (appF 0 (fun j k=>T.hole) (plainF (atL Hd.cs l))))])],[(false,[])])):=by kernel_rfl
theorem s_clH:EntOk prog i_clH e_clH:=ent_ok ea_clH_inj fun l hl=>by
 have hlm:=lm
 have hl':l.length≤LM:=hl
 have hb:=br_clH l
 simp only [Nat.zero_add,ble_d,Nat.le_refl,decide_true,Bool.and_true,gdt,app0,plain_Hd] at hb
 rw [decide_eq_true (show l.length * 16≤70368744177664 by omega),decide_eq_true (show l.length≤70368744177664 by omega)] at hb
 simp only [Bool.and_true,gdt] at hb
 refine clone_sound (φ:=tabS []) tabS_nil mixed (kp:=[(0,[0]),(1,[0,16]),(2,[8]),(3,[8])]) (n:=0) func166 (name_ok (by kernel_rfl)) (hc:=rfl) rfl rfl rfl (fun a w K Q h=>wp_value rfl h) (fun a w K Q h=>wp_value rfl h) (fun a w K Q Ad k c he h=>?_) (by decide) (fun hk=>?_) hb
 ·cases Ad with
  | none=>exact wp_value (v:=.bool true) (w':=w) (by simp only [execOp,he];kernel_rfl) h
  | some ad=>exact wp_value (v:=.bool false) (w':=w) (by simp only [execOp,he];kernel_rfl) h
 ·have:l=[]:=List.length_eq_zero_iff.1 hk
  subst this
  have ha:bodyR prog (tabS []) [(0,[0]),(1,[0,16]),(2,[8]),(3,[8])] 0 f166 (sub (bodyOf f166) [1,0,1,0]) [aT (eL 2 Hd.cs [])]=some ([(false,[.tr true (.arr 2 0 fun _ _=>.hole)])],[(false,[])]):=by kernel_rfl
  exact ha
def i_clI:Nat:=110
def ok_clI (l:List Int):Prop:=l.length≤LM
def ea_clI (l:List Int):List Arg:=[aT (eI l)]
def f_clI (l:List Int):List Int:=l
noncomputable def e_clI:Ent:=ent [] ok_clI ea_clI (fun l=>erT 1 (eI l)) f_clI
theorem ea_clI_inj (x y:List Int) (h:ea_clI x=ea_clI y):x=y:=by
 simp only [ea_clI,aT,List.cons.injEq,Prod.mk.injEq,true_and,and_true,C.tr.injEq] at h
 exact eI_inj h
theorem dm_clI {l:List Int} (h:ok_clI l):dom ok_clI ea_clI [(0,false,[C.tr false (T.arr 1 l.length (atL rowI l))])]=true:=dom_ea (ea:=ea_clI) (x:=l) h
theorem iv_clI {l:List Int} (h:ok_clI l):inv ok_clI ea_clI [(0,false,[C.tr false (T.arr 1 l.length (atL rowI l))])]=l:=inv_ea ea_clI_inj (x:=l) h
theorem d_clI (l:List Int):f_clI l=l:=rfl
theorem br_clI (l:List Int):bodyR prog (tabS []) [(0,[0]),(1,[0,16]),(2,[8]),(3,[8])] 0 f110 (sub (bodyOf f110) [1,1]) [aT (eI l)]=(
 gd (((0+l.length) * 8).ble 70368744177664&&(0+l.length).ble 70368744177664) <|
 gd ((0+l.length).ble (0+l.length)&&true) <|
 gd ((0+l.length).ble (0+l.length)&&true) <|
 some ([(false,[.tr true (.arr (1) (0+l.length) (appF 0 (fun j k=>T.hole) (plainF (atL rowI l))))])],[(false,[])])):=by kernel_rfl
theorem s_clI:EntOk prog i_clI e_clI:=ent_ok ea_clI_inj fun l hl=>by
 have hlm:=lm
 have hl':l.length≤LM:=hl
 have hb:=br_clI l
 simp only [Nat.zero_add,ble_d,Nat.le_refl,decide_true,Bool.and_true,gdt,app0,plain_I] at hb
 rw [decide_eq_true (show l.length * 8≤70368744177664 by omega),decide_eq_true (show l.length≤70368744177664 by omega)] at hb
 simp only [Bool.and_true,gdt] at hb
 refine clone_sound (φ:=tabS []) tabS_nil mixed (kp:=[(0,[0]),(1,[0,16]),(2,[8]),(3,[8])]) (n:=0) func110 (name_ok (by kernel_rfl)) (hc:=rfl) rfl rfl rfl (fun a w K Q h=>wp_value rfl h) (fun a w K Q h=>wp_value rfl h) (fun a w K Q Ad k c he h=>?_) (by decide) (fun hk=>?_) hb
 ·cases Ad with
  | none=>exact wp_value (v:=.bool true) (w':=w) (by simp only [execOp,he];kernel_rfl) h
  | some ad=>exact wp_value (v:=.bool false) (w':=w) (by simp only [execOp,he];kernel_rfl) h
 ·have:l=[]:=List.length_eq_zero_iff.1 hk
  subst this
  have ha:bodyR prog (tabS []) [(0,[0]),(1,[0,16]),(2,[8]),(3,[8])] 0 f110 (sub (bodyOf f110) [1,0,1,0]) [aT (eI [])]=some ([(false,[.tr true (.arr 1 0 fun _ _=>.hole)])],[(false,[])]):=by kernel_rfl
  exact ha
end Go.Mach.F
section
set_option maxRecDepth 100000
set_option maxHeartbeats 40000000
namespace Go.Mach.F
open Go Go.Mach Go.Proofs.Tryz Go.IntKind
--=set_option maxRecDepth 100000
def ok_iRoom (x:Rm):Prop:=ok_HdS x.kids∧ok_SfS x.things∧ok_LI x.tags
def ea_iRoom (x:Rm):List Arg:=[aR x.cs]
def f_iRoom (x:Rm):Rm:=x
noncomputable def e_iRoom:Ent:=ent [] ok_iRoom ea_iRoom (fun r=>erR 1 r.cs) f_iRoom
theorem ea_iRoom_inj (x y:Rm) (h:ea_iRoom x=ea_iRoom y):x=y:=by
 simp only [ea_iRoom,List.cons.injEq,and_true,true_and] at h
 exact Rm.cs_ext (aR_inj h)
theorem dm_iRoom {r:Rm} (h:ok_iRoom r):dom ok_iRoom ea_iRoom [(wRm r)]=true:=dom_ea (ea:=ea_iRoom) (x:=r) h
theorem iv_iRoom {r:Rm} (h:ok_iRoom r):inv ok_iRoom ea_iRoom [(wRm r)]=r:=inv_ea ea_iRoom_inj (x:=r) h
theorem d_iRoom (r:Rm):f_iRoom r=r:=rfl
def i_iRoom:Nat:=111
noncomputable abbrev F_iRoom:Func:=f111
def kp_iRoom:List (Nat × List Nat):=[(0,[4,5,8,9,128]),(1,[4,5,8,9,12,128]),(2,[4,5,8,9,12,28,32,36,40,128]),(3,[4,5,8,9,12,28,32,36,40,44,128]),(4,[4,5,8,9,12,20,21,28,32,36,40,48,52,128]),(5,[4,5,8,9,12,28,32,36,40,128]),(6,[4,5,8,9,12,28,32,36,40,128]),(7,[4,5,8,9,128]),(8,[4,5,8,9,128])]
def ts_iRoom:List Nat:=[0]
def st_iRoom_1 (r:Rm) (nx12:Nat) (fx12:Nat→Nat→T) (x40:Int):St:=[(4,⟨z0,[(false,[(C.pt (Pt.ptr 5 0 [] 11 0 0))])]⟩),(5,⟨z0,[(true,[.tr true (T.int i64 r.h.1),.tr true (T.int i64 r.h.2),.tr true (T.int i64 r.up.1),.tr true (T.int i64 r.up.2),.tr false (eL 2 Hd.cs r.3),.tr true (T.int i64 r.4),.tr true (T.int i64 r.5),.tr true (T.bool r.6),.tr true (T.int i64 r.7),.tr false (eL 1 Sf.cs r.8),.tr false (eL 1 rowI r.9)])]⟩),(8,⟨z0,[(false,[(C.pt (Pt.ptr 9 0 [] 11 0 0))])]⟩),(9,⟨z0,[(true,[.tr true (T.int i64 0),.tr true (T.int i64 0),.tr true (T.int i64 0),.tr true (T.int i64 0),.tr true (.arr (2) (0) (fun x x_1=>T.hole)),.tr true (T.int i64 0),.tr true (T.int i64 0),.tr true (T.bool false),.tr true (T.int i64 0),.tr true (.arr (1) (0) (fun x x_1=>T.hole)),.tr true (.arr (1) (0) (fun x x_1=>T.hole))])]⟩),(12,⟨z0,[(false,[.tr true (.arr (1) (nx12) (fx12))])]⟩),(28,⟨z0,[(false,[(C.pt (Pt.ptr 5 0 [] 11 0 9))])]⟩),(32,⟨z0,[(false,[.tr false (eL 1 Sf.cs r.8)])]⟩),(36,⟨z0,[(false,[.tr true (T.int i64 (↑r.8.length:Int))])]⟩),(40,⟨z0,[(false,[.tr true (T.int i64 x40)])]⟩)]
def ex_iRoom_1_1 (r:Rm) (nx12:Nat) (fx12:Nat→Nat→T) (x40:Int):St:=[(4,⟨z0,[(false,[(C.pt (Pt.ptr 5 0 [] 11 0 0))])]⟩),(5,⟨z0,[(true,[.tr true (T.int i64 r.h.1),.tr true (T.int i64 r.h.2),.tr true (T.int i64 r.up.1),.tr true (T.int i64 r.up.2),.tr false (eL 2 Hd.cs r.3),.tr true (T.int i64 r.4),.tr true (T.int i64 r.5),.tr true (T.bool r.6),.tr true (T.int i64 r.7),.tr false (eL 1 Sf.cs r.8),.tr false (eL 1 rowI r.9)])]⟩),(8,⟨z0,[(false,[(C.pt (Pt.ptr 9 0 [] 11 0 0))])]⟩),(9,⟨z0,[(true,[.tr true (T.int i64 0),.tr true (T.int i64 0),.tr true (T.int i64 0),.tr true (T.int i64 0),.tr true (.arr (2) (0) (fun x x_1=>T.hole)),.tr true (T.int i64 0),.tr true (T.int i64 0),.tr true (T.bool false),.tr true (T.int i64 0),.tr true (.arr (1) (0) (fun x x_1=>T.hole)),.tr true (.arr (1) (0) (fun x x_1=>T.hole))])]⟩),(12,⟨z0,[(false,[.tr true (.arr (1) (nx12) (fx12))])]⟩),(28,⟨z0,[(false,[(C.pt (Pt.ptr 5 0 [] 11 0 9))])]⟩),(32,⟨z0,[(false,[.tr false (eL 1 Sf.cs r.8)])]⟩),(36,⟨z0,[(false,[.tr true (T.int i64 (↑r.8.length:Int))])]⟩),(40,⟨z0,[(false,[.tr true (T.int i64 x40)])]⟩),(44,⟨z0,[]⟩)]
noncomputable abbrev tb12:Sems:=tabS [(i_clB,e_clB),(i_clH,e_clH),(i_clI,e_clI)]
theorem round_iRoom_1 (r:Rm) (nx12:Nat) (fx12:Nat→Nat→T) (x40:Int) (n:Nat) (K:Ex→St→Res):roundAt prog tb12 kp_iRoom F_iRoom [1,1,0,1,0] n (st_iRoom_1 r nx12 fx12 x40) K=(bif decide (x40 < (↑r.8.length:Int)) then gd (decide (0≤x40)&&(x40.toNat.blt r.8.length&&true))<|gd ((atL Sf.cs r.8 x40.toNat 0).isArr&&(atL Sf.cs r.8 x40.toNat 0).wd.beq 1)<|entK ok_clB ea_clB (f_clB) [(0,false,[C.tr false (T.arr 1 (atL Sf.cs r.8 x40.toNat 0).ln (atL Sf.cs r.8 x40.toNat 0).fn)])] fun (r1:List UInt8)=>gl r1.length<|gl r1.length<|gl nx12<|gd (((nx12+1) * 24).ble 70368744177664&&(nx12+1).ble 70368744177664)<|gd ((nx12+1).ble (nx12+1)&&true)<|K .normal (st_iRoom_1 r (nx12+1) (appF nx12 fx12 (rowsT [[T.arr 1 r1.length (atL rowB r1)]])) (i64.wrap (x40+1))) else K (.exit 0) (ex_iRoom_1_1 r nx12 fx12 x40)):=by kernel_rfl
theorem post_iRoom_1_1 (r:Rm) (nx12:Nat) (fx12:Nat→Nat→T) (x40:Int) (n:Nat):contAt prog tb12 kp_iRoom F_iRoom ts_iRoom [1,1,0,1,0] [] n (.exit 0) (ex_iRoom_1_1 r nx12 fx12 x40)=(entK ok_clH ea_clH (f_clH) [(0,false,[C.tr false (eL 2 Hd.cs r.3)])] fun (r2:List Hd)=>entK ok_clI ea_clI (f_clI) [(0,false,[C.tr false (eL 1 rowI r.9)])] fun (r3:List Int)=>gl r2.length<|gl nx12<|gl r3.length<|gl r2.length<|gl nx12<|gl r3.length<|gl r2.length<|gl nx12<|gl r3.length<|some ([(true,[.tr true (T.int i64 r.h.1),.tr true (T.int i64 r.h.2),.tr true (T.int i64 r.up.1),.tr true (T.int i64 r.up.2),.tr true (.arr (2) (r2.length) ((eL 2 Hd.cs r2).fn)),.tr true (T.int i64 r.4),.tr true (T.int i64 r.5),.tr true (T.bool r.6),.tr true (T.int i64 r.7),.tr true (.arr (1) (nx12) (fx12)),.tr true (.arr (1) (r3.length) (atL rowI r3))])],[(false,[])])):=by kernel_rfl
theorem pre_iRoom (r:Rm) (n:Nat):body prog tb12 kp_iRoom n F_iRoom [aR r.cs]=(loopAt prog tb12 kp_iRoom F_iRoom [1,1,0,1,0] n n (st_iRoom_1 r (0) (rowsT []) (0)) (contAt prog tb12 kp_iRoom F_iRoom ts_iRoom [1,1,0,1,0] [] n)):=by kernel_rfl
def ok_sRoom (x:Rm):Prop:=ok_HdS x.kids∧ok_SfS x.things∧ok_LI x.tags
def ea_sRoom (x:Rm):List Arg:=[aR x.cs]
def f_sRoom (x:Rm):Rm:=x
noncomputable def e_sRoom:Ent:=ent [] ok_sRoom ea_sRoom (fun r=>erR 1 r.cs) f_sRoom
theorem ea_sRoom_inj (x y:Rm) (h:ea_sRoom x=ea_sRoom y):x=y:=by
 simp only [ea_sRoom,List.cons.injEq,and_true,true_and] at h
 exact Rm.cs_ext (aR_inj h)
theorem dm_sRoom {r:Rm} (h:ok_sRoom r):dom ok_sRoom ea_sRoom [(wRm r)]=true:=dom_ea (ea:=ea_sRoom) (x:=r) h
theorem iv_sRoom {r:Rm} (h:ok_sRoom r):inv ok_sRoom ea_sRoom [(wRm r)]=r:=inv_ea ea_sRoom_inj (x:=r) h
theorem d_sRoom (r:Rm):f_sRoom r=r:=rfl
def i_sRoom:Nat:=96
noncomputable abbrev F_sRoom:Func:=f96
def kp_sRoom:List (Nat × List Nat):=[(0,[4,5,8,9,12,13,20,156]),(1,[4,5,8,9,12,13,20,156]),(2,[4,5,8,9,12,13,20,156]),(3,[4,5,8,9,12,13,20,156]),(4,[4,5,8,9,12,13,20,156]),(5,[4,5,8,9,12,13,16,20,156]),(6,[4,5,8,9,12,13,16,20,88,156]),(7,[4,5,8,9,12,13,16,20,156]),(8,[4,5,8,9,12,13,16,20,156]),(9,[4,5,8,9,12,13,20,156])]
def ts_sRoom:List Nat:=[0]
def st_sRoom_1 (r:Rm) (nx13_9:Nat) (fx13_9:Nat→Nat→T) (x16:Int):St:=[(4,⟨z0,[(false,[(C.pt (Pt.ptr 5 0 [] 11 0 0))])]⟩),(5,⟨z0,[(true,[.tr true (T.int i64 r.h.1),.tr true (T.int i64 r.h.2),.tr true (T.int i64 r.up.1),.tr true (T.int i64 r.up.2),.tr false (eL 2 Hd.cs r.3),.tr true (T.int i64 r.4),.tr true (T.int i64 r.5),.tr true (T.bool r.6),.tr true (T.int i64 r.7),.tr false (eL 1 Sf.cs r.8),.tr false (eL 1 rowI r.9)])]⟩),(8,⟨z0,[(false,[(C.pt (Pt.ptr 9 0 [] 11 0 0))])]⟩),(9,⟨z0,[(true,[.tr true (T.int i64 0),.tr true (T.int i64 0),.tr true (T.int i64 0),.tr true (T.int i64 0),.tr true (.arr (2) (0) (fun x x_1=>T.hole)),.tr true (T.int i64 0),.tr true (T.int i64 0),.tr true (T.bool false),.tr true (T.int i64 0),.tr true (.arr (1) (0) (fun x x_1=>T.hole)),.tr true (.arr (1) (0) (fun x x_1=>T.hole))])]⟩),(12,⟨z0,[(false,[(C.pt (Pt.ptr 13 0 [] 11 0 0))])]⟩),(13,⟨z0,[(true,[.tr true (T.int i64 r.h.1),.tr true (T.int i64 r.h.2),.tr true (T.int i64 r.up.1),.tr true (T.int i64 r.up.2),.tr true (.arr (2) (0+r.3.length) (appF 0 (rowsT []) (plainF (atL Hd.cs r.3)))),.tr true (T.int i64 r.4),.tr true (T.int i64 r.5),.tr true (T.bool r.6),.tr true (T.int i64 r.7),.tr true (.arr (1) (nx13_9) (fx13_9)),.tr true (.arr (1) (0+r.9.length) (appF 0 (rowsT []) (plainF (atL rowI r.9))))])]⟩),(16,⟨z0,[(false,[.tr true (T.int i64 x16)])]⟩),(20,⟨z0,[(true,[.tr true (T.int i64 r.h.1),.tr true (T.int i64 r.h.2),.tr true (T.int i64 r.up.1),.tr true (T.int i64 r.up.2),.tr false (eL 2 Hd.cs r.3),.tr true (T.int i64 r.4),.tr true (T.int i64 r.5),.tr true (T.bool r.6),.tr true (T.int i64 r.7),.tr false (eL 1 Sf.cs r.8),.tr false (eL 1 rowI r.9)])]⟩)]
def ex_sRoom_1_1 (r:Rm) (nx13_9:Nat) (fx13_9:Nat→Nat→T) (x16:Int):St:=[(4,⟨z0,[(false,[(C.pt (Pt.ptr 5 0 [] 11 0 0))])]⟩),(5,⟨z0,[(true,[.tr true (T.int i64 r.h.1),.tr true (T.int i64 r.h.2),.tr true (T.int i64 r.up.1),.tr true (T.int i64 r.up.2),.tr false (eL 2 Hd.cs r.3),.tr true (T.int i64 r.4),.tr true (T.int i64 r.5),.tr true (T.bool r.6),.tr true (T.int i64 r.7),.tr false (eL 1 Sf.cs r.8),.tr false (eL 1 rowI r.9)])]⟩),(8,⟨z0,[(false,[(C.pt (Pt.ptr 9 0 [] 11 0 0))])]⟩),(9,⟨z0,[(true,[.tr true (T.int i64 0),.tr true (T.int i64 0),.tr true (T.int i64 0),.tr true (T.int i64 0),.tr true (.arr (2) (0) (fun x x_1=>T.hole)),.tr true (T.int i64 0),.tr true (T.int i64 0),.tr true (T.bool false),.tr true (T.int i64 0),.tr true (.arr (1) (0) (fun x x_1=>T.hole)),.tr true (.arr (1) (0) (fun x x_1=>T.hole))])]⟩),(12,⟨z0,[(false,[(C.pt (Pt.ptr 13 0 [] 11 0 0))])]⟩),(13,⟨z0,[(true,[.tr true (T.int i64 r.h.1),.tr true (T.int i64 r.h.2),.tr true (T.int i64 r.up.1),.tr true (T.int i64 r.up.2),.tr true (.arr (2) (0+r.3.length) (appF 0 (rowsT []) (plainF (atL Hd.cs r.3)))),.tr true (T.int i64 r.4),.tr true (T.int i64 r.5),.tr true (T.bool r.6),.tr true (T.int i64 r.7),.tr true (.arr (1) (nx13_9) (fx13_9)),.tr true (.arr (1) (0+r.9.length) (appF 0 (rowsT []) (plainF (atL rowI r.9))))])]⟩),(16,⟨z0,[(false,[.tr true (T.int i64 x16)])]⟩),(20,⟨z0,[(true,[.tr true (T.int i64 r.h.1),.tr true (T.int i64 r.h.2),.tr true (T.int i64 r.up.1),.tr true (T.int i64 r.up.2),.tr false (eL 2 Hd.cs r.3),.tr true (T.int i64 r.4),.tr true (T.int i64 r.5),.tr true (T.bool r.6),.tr true (T.int i64 r.7),.tr false (eL 1 Sf.cs r.8),.tr false (eL 1 rowI r.9)])]⟩),(88,⟨z0,[]⟩)]
theorem round_sRoom_1 (r:Rm) (nx13_9:Nat) (fx13_9:Nat→Nat→T) (x16:Int) (n:Nat) (K:Ex→St→Res):roundAt prog (tabS []) kp_sRoom F_sRoom (ons 5 [0,1,0]) n (st_sRoom_1 r nx13_9 fx13_9 x16) K=(bif decide (x16 < (↑r.8.length:Int)) then gd (decide (0≤x16)&&(x16.toNat.blt r.8.length&&true))<|gd ((atL Sf.cs r.8 x16.toNat 0).isArr&&(atL Sf.cs r.8 x16.toNat 0).wd.beq 1)<|gd (((0+(atL Sf.cs r.8 x16.toNat 0).ln) * 1).ble 70368744177664&&(0+(atL Sf.cs r.8 x16.toNat 0).ln).ble 70368744177664)<|gd ((0+(atL Sf.cs r.8 x16.toNat 0).ln).ble (0+(atL Sf.cs r.8 x16.toNat 0).ln)&&true)<|gd ((0+(atL Sf.cs r.8 x16.toNat 0).ln).ble (0+(atL Sf.cs r.8 x16.toNat 0).ln)&&true)<|gl nx13_9<|gd (((nx13_9+1) * 24).ble 70368744177664&&(nx13_9+1).ble 70368744177664)<|gd ((nx13_9+1).ble (nx13_9+1)&&true)<|K .normal (st_sRoom_1 r (nx13_9+1) (appF nx13_9 fx13_9 (rowsT [[T.arr 1 (0+(atL Sf.cs r.8 x16.toNat 0).ln) (appF 0 (rowsT []) (plainF (atL Sf.cs r.8 x16.toNat 0).fn))]])) (i64.wrap (x16+1))) else K (.exit 0) (ex_sRoom_1_1 r nx13_9 fx13_9 x16)):=by kernel_rfl
theorem post_sRoom_1_1 (r:Rm) (nx13_9:Nat) (fx13_9:Nat→Nat→T) (x16:Int) (n:Nat):contAt prog (tabS []) kp_sRoom F_sRoom ts_sRoom (ons 5 [0,1,0]) [] n (.exit 0) (ex_sRoom_1_1 r nx13_9 fx13_9 x16)=(gd ((0+r.3.length).ble (0+r.3.length)&&true)<|gl nx13_9<|gd ((0+r.9.length).ble (0+r.9.length)&&true)<|gd ((0+r.3.length).ble (0+r.3.length)&&true)<|gl nx13_9<|gd ((0+r.9.length).ble (0+r.9.length)&&true)<|some ([(true,[.tr true (T.int i64 r.h.1),.tr true (T.int i64 r.h.2),.tr true (T.int i64 r.up.1),.tr true (T.int i64 r.up.2),.tr true (.arr (2) (0+r.3.length) (appF 0 (rowsT []) (plainF (atL Hd.cs r.3)))),.tr true (T.int i64 r.4),.tr true (T.int i64 r.5),.tr true (T.bool r.6),.tr true (T.int i64 r.7),.tr true (.arr (1) (nx13_9) (fx13_9)),.tr true (.arr (1) (0+r.9.length) (appF 0 (rowsT []) (plainF (atL rowI r.9))))])],[(false,[])])):=by kernel_rfl
theorem pre_sRoom (r:Rm) (n:Nat):body prog (tabS []) kp_sRoom n F_sRoom [aR r.cs]=(gd (((0+r.3.length) * 16).ble 70368744177664&&(0+r.3.length).ble 70368744177664)<|gd ((0+r.3.length).ble (0+r.3.length)&&true)<|gd (((0+r.9.length) * 8).ble 70368744177664&&(0+r.9.length).ble 70368744177664)<|gd ((0+r.9.length).ble (0+r.9.length)&&true)<|loopAt prog (tabS []) kp_sRoom F_sRoom (ons 5 [0,1,0]) n n (st_sRoom_1 r (0) (rowsT []) (0)) (contAt prog (tabS []) kp_sRoom F_sRoom ts_sRoom (ons 5 [0,1,0]) [] n)):=by kernel_rfl
end Go.Mach.F
end
namespace Go.Mach.F
open Go Go.Mach Go.Proofs.Tryz
theorem rowsT0 {α:Type} (row:α→List T):rowsT []=atL row ([]:List α):=by
 funext j k
 simp [rowsT,atL]
theorem app1g {α:Type} (row:α→List T) (out:List α) (x:α):appF out.length (atL row out) (rowsT [row x])=atL row (out ++ [x]):=by
 funext j k
 unfold appF
 rw [blt_d,Bool.cond_decide]
 by_cases h:j < out.length
 ·rw [if_pos h]
  unfold atL
  rw [List.getElem?_append_left h]
 ·rw [if_neg h]
  unfold atL
  rw [List.getElem?_append_right (by omega)]
  obtain ⟨d,hd⟩:∃ d,d=j - out.length:=⟨_,rfl⟩
  rw [← hd]
  cases d with
  | zero=>rfl
  | succ d=>simp [rowsT]
theorem take_app {α:Type} {l:List α} {i:Nat} {x:α} (row:α→List T) (h:l[i]?=some x):appF i (atL row (l.take i)) (rowsT [row x])=atL row (l.take (i+1)):=by
 have hi:i < l.length:=(List.getElem?_eq_some_iff.1 h).1
 have:=app1g row (l.take i) x
 rw [List.length_take,show min i l.length=i by omega] at this
 rw [this,List.take_add_one,h]
 rfl
theorem body_iRoom (r:Rm) (h:ok_iRoom r):body prog tb12 kp_iRoom (r.things.length+1) F_iRoom (ea_iRoom r)=some (erR 1 (f_iRoom r).cs):=by
 have hlm:=lm
 obtain ⟨h0,h1,h2⟩:ok_HdS r.kids∧ok_SfS r.things∧ok_LI r.tags:=h
 have hl:r.things.length≤LM:=h1.1
 unfold ea_iRoom f_iRoom
 rw [pre_iRoom]
 have hst:st_iRoom_1 r 0 (rowsT []) 0=(fun i:Nat=>st_iRoom_1 r i (atL Sf.cs (r.things.take i)) (i:Nat)) 0:=by
  rw [rowsT0 Sf.cs]
  rfl
 rw [hst,forLoop r.things.length (fun i:Nat=>st_iRoom_1 r i (atL Sf.cs (r.things.take i)) (i:Nat)) (ex_iRoom_1_1 r r.things.length (atL Sf.cs r.things) r.things.length) 0 (fun i K hi=>?_) (fun K=>?_) _ (Nat.le_refl _)]
 ·have c1:ok_clH r.kids:=h0.1
  have c2:ok_clI r.tags:=h2
  rw [post_iRoom_1_1]
  simp only [rsx0,eL_T,ble_d,Nat.le_refl,entK_of (dm_clH c1) (iv_clH c1),d_clH,entK_of (dm_clI c2) (iv_clI c2),d_clI]
  rfl
 ·have hx:=List.getElem?_eq_getElem hi
  obtain ⟨x,hxe⟩:∃ x,x=r.things[i]:=⟨_,rfl⟩
  rw [← hxe] at hx
  have c0:ok_clB x.b:=h1.2 _ (List.mem_of_getElem? hx)
  rw [round_iRoom_1,← take_app Sf.cs hx]
  have hs:(i+1) * 24≤70368744177664:=by omega
  have hs2:i+1≤70368744177664:=by omega
  simp (disch:=omega) only [rsx0,eL_T,ble_d,Nat.le_refl,hi,hs,hs2,atL_of hx,Sf.cs,wrapS,entK_of (dm_clB c0) (iv_clB c0),d_clB]
 ·rw [round_iRoom_1]
  simp only [lt_d,Nat.lt_irrefl,decide_false,cond_false,List.take_length]
theorem s_iRoom:EntOk prog i_iRoom e_iRoom:=ent_ok ea_iRoom_inj fun x hx =>
 body_sound (φ:=tb12) (tabS_cons s_clB (tabS_cons s_clH (tabS_cons s_clI tabS_nil))) mixed (kp:=kp_iRoom) (n:=x.things.length+1) func111 (c:=bodyOf F_iRoom) (by kernel_rfl) (body_iRoom x hx) (name_ok (by kernel_rfl))
theorem body_sRoom (r:Rm) (h:ok_sRoom r):body prog (tabS []) kp_sRoom (r.things.length+1) F_sRoom (ea_sRoom r)=some (erR 1 (f_sRoom r).cs):=by
 have hlm:=lm
 obtain ⟨h0,h1,h2⟩:ok_HdS r.kids∧ok_SfS r.things∧ok_LI r.tags:=h
 have hl:r.things.length≤LM:=h1.1
 have hk:r.kids.length≤LM:=h0.1
 have ht:r.tags.length≤LM:=h2
 unfold ea_sRoom f_sRoom
 rw [pre_sRoom]
 have q1:r.kids.length * 16≤70368744177664:=by omega
 have q2:r.kids.length≤70368744177664:=by omega
 have q3:r.tags.length * 8≤70368744177664:=by omega
 have q4:r.tags.length≤70368744177664:=by omega
 simp only [rsx0,ble_d,Nat.le_refl,q1,q2,q3,q4]
 have hst:st_sRoom_1 r 0 (rowsT []) 0=(fun i:Nat=>st_sRoom_1 r i (atL Sf.cs (r.things.take i)) (i:Nat)) 0:=by
  rw [rowsT0 Sf.cs]
  rfl
 rw [hst,forLoop r.things.length (fun i:Nat=>st_sRoom_1 r i (atL Sf.cs (r.things.take i)) (i:Nat)) (ex_sRoom_1_1 r r.things.length (atL Sf.cs r.things) r.things.length) 0 (fun i K hi=>?_) (fun K=>?_) _ (Nat.le_refl _)]
 ·rw [post_sRoom_1_1]
  have e1:appF 0 (rowsT []) (plainF (atL Hd.cs r.kids))=atL Hd.cs r.kids:=by rw [plain_Hd,app0]
  have e2:appF 0 (rowsT []) (plainF (atL rowI r.tags))=atL rowI r.tags:=by rw [plain_I,app0]
  simp only [rsx0,ble_d,Nat.le_refl,e1,e2]
  rfl
 ·have hx:=List.getElem?_eq_getElem hi
  obtain ⟨x,hxe⟩:∃ x,x=r.things[i]:=⟨_,rfl⟩
  rw [← hxe] at hx
  have c0:x.b.length≤LM:=h1.2 _ (List.mem_of_getElem? hx)
  rw [round_sRoom_1,← take_app Sf.cs hx]
  have hs:(i+1) * 24≤70368744177664:=by omega
  have hs2:i+1≤70368744177664:=by omega
  have hs3:x.b.length * 1≤70368744177664:=by omega
  have hs4:x.b.length≤70368744177664:=by omega
  have e1:appF 0 (rowsT []) (plainF (atL rowB x.b))=atL rowB x.b:=by rw [plain_B,app0]
  simp (disch:=omega) only [rsx0,eL_T,ble_d,Nat.le_refl,hi,hs,hs2,hs3,hs4,atL_of hx,Sf.cs,wrapS,e1]
 ·rw [round_sRoom_1]
  simp only [lt_d,Nat.lt_irrefl,decide_false,cond_false,List.take_length]
theorem s_sRoom:EntOk prog i_sRoom e_sRoom:=ent_ok ea_sRoom_inj fun x hx =>
 body_sound (φ:=(tabS [])) tabS_nil mixed (kp:=kp_sRoom) (n:=x.things.length+1) func96 (c:=bodyOf F_sRoom) (by kernel_rfl) (body_sRoom x hx) (name_ok (by kernel_rfl))
end Go.Mach.F
namespace Go.Mach.F
open Go Go.Mach Go.Proofs.Tryz Go.IntKind
--=set_option maxRecDepth 100000
def zRm:Rm:=⟨⟨0,0⟩,⟨0,0⟩,[],0,0,false,0,[],[]⟩
def roomAt (l:List Rm) (h:Hd):Rm:=bif decide (rof l h < 0) then zRm else l.getD (rof l h).toNat zRm
def ok_sRoomAt (x:Ml × Hd):Prop:=(x.1.rooms.length≤LM∧∀ r∈x.1.rooms,ok_HdS r.kids∧ok_SfS r.things∧ok_LI r.tags)
def ea_sRoomAt (x:Ml × Hd):List Arg:=[aR x.1.cs,aR x.2.cs]
def f_sRoomAt (x:Ml × Hd):Rm:=roomAt x.1.rooms x.2
noncomputable def e_sRoomAt:Ent:=ent [] ok_sRoomAt ea_sRoomAt (fun r=>erR 2 r.cs) f_sRoomAt
theorem ea_sRoomAt_inj (x y:Ml × Hd) (h:ea_sRoomAt x=ea_sRoomAt y):x=y:=by
 obtain ⟨m1,h1⟩:=x
 obtain ⟨m2,h2⟩:=y
 simp only [ea_sRoomAt,List.cons.injEq,and_true,true_and] at h
 obtain ⟨e0,e1⟩:=h
 obtain rfl:=Ml.cs_ext (aR_inj e0)
 obtain rfl:=Hd.cs_ext (aR_inj e1)
 rfl
theorem dm_sRoomAt {m:Ml} {h:Hd} (h0:ok_sRoomAt (m,h)):dom ok_sRoomAt ea_sRoomAt [(wMl m),(wHd h)]=true:=dom_ea (ea:=ea_sRoomAt) (x:=(m,h)) h0
theorem iv_sRoomAt {m:Ml} {h:Hd} (h0:ok_sRoomAt (m,h)):inv ok_sRoomAt ea_sRoomAt [(wMl m),(wHd h)]=(m,h):=inv_ea ea_sRoomAt_inj (x:=(m,h)) h0
theorem d_sRoomAt (m:Ml) (h:Hd):f_sRoomAt (m,h)=roomAt m.rooms h:=rfl
def i_sRoomAt:Nat:=102
noncomputable abbrev F_sRoomAt:Func:=f102
def kp_sRoomAt:List (Nat × List Nat):=[(0,[8,9,12,13,16,17,44,68]),(1,[8,9,16,17,20,44,68]),(2,[8,9,16,17,20,40,44,68]),(3,[16,17,44,68]),(4,[16,17,44,68])]
noncomputable abbrev tb13:Sems:=tabS [(i_sRoomOf,e_sRoomOf),(i_sRoom,e_sRoom)]
theorem pre_sRoomAt (m:Ml) (h:Hd) (n:Nat):body prog tb13 kp_sRoomAt n F_sRoomAt [aR m.cs,aR h.cs]=(entK ok_sRoomOf ea_sRoomOf (f_sRoomOf) [(wMl m),(wHd h)] fun (r1:Int)=>bif decide (r1 < 0) then some ([(true,[.tr true (T.int i64 0),.tr true (T.int i64 0),.tr true (T.int i64 0),.tr true (T.int i64 0),.tr true (.arr (2) (0) (fun x x_1=>T.hole)),.tr true (T.int i64 0),.tr true (T.int i64 0),.tr true (T.bool false),.tr true (T.int i64 0),.tr true (.arr (1) (0) (fun x x_1=>T.hole)),.tr true (.arr (1) (0) (fun x x_1=>T.hole))])],[(false,[]),(false,[])]) else gd (decide (0≤r1)&&(r1.toNat.blt m.2.length&&true))<|gd (T.isI i64 (atL Rm.cs m.2 r1.toNat 0)&&T.isI i64 (atL Rm.cs m.2 r1.toNat 1)&&T.isI i64 (atL Rm.cs m.2 r1.toNat 2)&&T.isI i64 (atL Rm.cs m.2 r1.toNat 3)&&((atL Rm.cs m.2 r1.toNat 4).isArr&&(atL Rm.cs m.2 r1.toNat 4).wd.beq 2)&&T.isI i64 (atL Rm.cs m.2 r1.toNat 5)&&T.isI i64 (atL Rm.cs m.2 r1.toNat 6)&&(atL Rm.cs m.2 r1.toNat 7).isB&&T.isI i64 (atL Rm.cs m.2 r1.toNat 8)&&((atL Rm.cs m.2 r1.toNat 9).isArr&&(atL Rm.cs m.2 r1.toNat 9).wd.beq 1)&&((atL Rm.cs m.2 r1.toNat 10).isArr&&(atL Rm.cs m.2 r1.toNat 10).wd.beq 1))<|entK ok_sRoom ea_sRoom (f_sRoom) [(0,true,[C.tr false (T.int i64 (atL Rm.cs m.2 r1.toNat 0).toI),C.tr false (T.int i64 (atL Rm.cs m.2 r1.toNat 1).toI),C.tr false (T.int i64 (atL Rm.cs m.2 r1.toNat 2).toI),C.tr false (T.int i64 (atL Rm.cs m.2 r1.toNat 3).toI),C.tr false (T.arr 2 (atL Rm.cs m.2 r1.toNat 4).ln (atL Rm.cs m.2 r1.toNat 4).fn),C.tr false (T.int i64 (atL Rm.cs m.2 r1.toNat 5).toI),C.tr false (T.int i64 (atL Rm.cs m.2 r1.toNat 6).toI),C.tr false (T.bool (atL Rm.cs m.2 r1.toNat 7).toB),C.tr false (T.int i64 (atL Rm.cs m.2 r1.toNat 8).toI),C.tr false (T.arr 1 (atL Rm.cs m.2 r1.toNat 9).ln (atL Rm.cs m.2 r1.toNat 9).fn),C.tr false (T.arr 1 (atL Rm.cs m.2 r1.toNat 10).ln (atL Rm.cs m.2 r1.toNat 10).fn)])] fun (r2:Rm)=>gl r2.3.length<|gl r2.8.length<|gl r2.9.length<|gl r2.3.length<|gl r2.8.length<|gl r2.9.length<|some ([(oR (Rm.cs r2))],[(false,[]),(false,[])])):=by kernel_rfl
end Go.Mach.F
namespace Go.Mach.F
open Go Go.Mach Go.Proofs.Tryz
theorem rof_lt {l:List Rm} {h:Hd} (h0:¬ rof l h < 0):0≤rof l h∧(rof l h).toNat < l.length:=by
 refine ⟨by omega,?_⟩
 unfold rof at h0 ⊢
 cases hf:(List.range l.length).find? (fun i=>decide (l[i]?.map Rm.h=some h)) with
 | some i =>
  have:=List.mem_range.1 (List.mem_of_find?_eq_some hf)
  simpa using this
 | none =>
  rw [hf] at h0
  exact absurd (by decide) h0
theorem getD_get {l:List Rm} {k:Nat} (h:k < l.length):l[k]?=some (l.getD k zRm):=by
 rw [List.getD_eq_getElem?_getD,List.getElem?_eq_getElem h]
 rfl
theorem body_sRoomAt (m:Ml) (h:Hd) (n:Nat) (h0:ok_sRoomAt (m,h)):body prog tb13 kp_sRoomAt n F_sRoomAt (ea_sRoomAt (m,h))=some (erR 2 (f_sRoomAt (m,h)).cs):=by
 obtain ⟨hl,hr⟩:=h0
 dsimp only at hl hr
 have c0:ok_sRoomOf (m,h):=hl
 unfold ea_sRoomAt f_sRoomAt roomAt
 dsimp only
 rw [pre_sRoomAt]
 simp only [rsx0,eL_T,Ml.cs,Hd.cs,entK_of (dm_sRoomOf c0) (iv_sRoomOf c0),d_sRoomOf]
 by_cases e:rof m.rooms h < 0
 ·simp only [e,decide_true,cond_true]
  rfl
 ·have e1:=rof_lt e
  obtain ⟨r,hre⟩:∃ r,r=m.rooms.getD (rof m.rooms h).toNat zRm:=⟨_,rfl⟩
  have hx:=getD_get e1.2
  rw [← hre] at hx ⊢
  have c1:ok_sRoom r:=hr _ (List.mem_of_getElem? hx)
  simp only [rsx0,e,decide_false,cond_false,e1.1,e1.2,atL_of hx,Rm.cs,eL_T]
  rw [entK_of (dm_sRoom c1) (iv_sRoom c1)]
  simp only [rsx0,ble_d,Nat.le_refl,eL_T,d_sRoom]
  rfl
theorem s_sRoomAt:EntOk prog i_sRoomAt e_sRoomAt:=ent_ok ea_sRoomAt_inj fun x hx =>
 body_sound (φ:=tb13) (tabS_cons s_sRoomOf (tabS_cons s_sRoom tabS_nil)) mixed (kp:=kp_sRoomAt) (n:=0) func102 (c:=bodyOf F_sRoomAt) (by kernel_rfl) (body_sRoomAt x.1 x.2 (0) hx) (name_ok (by kernel_rfl))
end Go.Mach.F
namespace Go.Mach.F
open Go Go.Mach Go.Proofs.Tryz
--=set_option maxRecDepth 100000
def i_iHOk:Nat:=167
noncomputable abbrev F_iHOk:Func:=f167
def kp_iHOk:List (Nat × List Nat):=[(0,[4,5,28,32,36]),(1,[8])]
noncomputable def e_iHOk:Ent:=inl [] prog (tabS []) kp_iHOk 0 F_iHOk
theorem s_iHOk:EntOk prog i_iHOk e_iHOk:=inl_ok tabS_nil mixed (c:=bodyOf F_iHOk) func167 (by kernel_rfl) (name_ok (by kernel_rfl))
def i_sHOk:Nat:=153
noncomputable abbrev F_sHOk:Func:=f153
def kp_sHOk:List (Nat × List Nat):=[(0,[4,5,28,32,36]),(1,[8])]
noncomputable def e_sHOk:Ent:=inl [] prog (tabS []) kp_sHOk 0 F_sHOk
theorem s_sHOk:EntOk prog i_sHOk e_sHOk:=inl_ok tabS_nil mixed (c:=bodyOf F_sHOk) func153 (by kernel_rfl) (name_ok (by kernel_rfl))
def i_iROk:Nat:=175
noncomputable abbrev F_iROk:Func:=f175
def kp_iROk:List (Nat × List Nat):=[(0,[4,5,28,32,36,48,52,56]),(1,[8])]
noncomputable def e_iROk:Ent:=inl [] prog (tabS [(i_iHOk,e_iHOk)]) kp_iROk 0 F_iROk
theorem s_iROk:EntOk prog i_iROk e_iROk:=inl_ok (tabS_cons s_iHOk tabS_nil) mixed (c:=bodyOf F_iROk) func175 (by kernel_rfl) (name_ok (by kernel_rfl))
def i_sROk:Nat:=160
noncomputable abbrev F_sROk:Func:=f160
def kp_sROk:List (Nat × List Nat):=[(0,[4,5,28,32,36,48,52,56]),(1,[8])]
noncomputable def e_sROk:Ent:=inl [] prog (tabS [(i_sHOk,e_sHOk)]) kp_sROk 0 F_sROk
theorem s_sROk:EntOk prog i_sROk e_sROk:=inl_ok (tabS_cons s_sHOk tabS_nil) mixed (c:=bodyOf F_sROk) func160 (by kernel_rfl) (name_ok (by kernel_rfl))
end Go.Mach.F
namespace Go.Mach.F
open Go Go.Mach Go.Proofs.Tryz Go.IntKind
--=set_option maxRecDepth 100000
def hOk (h:Hd):Bool:=decide (0≤h.slot)&&decide (1≤h.gen)
def rsv (m:Ml) (h:Hd):Int × Int:=bif hOk h then (bif decide (rof m.rooms h < 0) then (-1,2) else (rof m.rooms h,0)) else (-1,1)
def ok_iRsv (x:Ml × Hd):Prop:=x.1.rooms.length≤LM
def ea_iRsv (x:Ml × Hd):List Arg:=[aR x.1.cs,aR x.2.cs]
def f_iRsv (x:Ml × Hd):Int × Int:=rsv x.1 x.2
noncomputable def e_iRsv:Ent:=ent [] ok_iRsv ea_iRsv (fun (x:Int × Int)=>([oT (.int .i64 x.1),oT (.int .i64 x.2)],[nul,nul])) f_iRsv
theorem ea_iRsv_inj (x y:Ml × Hd) (h:ea_iRsv x=ea_iRsv y):x=y:=by
 obtain ⟨m1,h1⟩:=x
 obtain ⟨m2,h2⟩:=y
 simp only [ea_iRsv,List.cons.injEq,and_true,true_and] at h
 obtain ⟨e0,e1⟩:=h
 obtain rfl:=Ml.cs_ext (aR_inj e0)
 obtain rfl:=Hd.cs_ext (aR_inj e1)
 rfl
theorem dm_iRsv {m:Ml} {h:Hd} (h0:ok_iRsv (m,h)):dom ok_iRsv ea_iRsv [(wMl m),(wHd h)]=true:=dom_ea (ea:=ea_iRsv) (x:=(m,h)) h0
theorem iv_iRsv {m:Ml} {h:Hd} (h0:ok_iRsv (m,h)):inv ok_iRsv ea_iRsv [(wMl m),(wHd h)]=(m,h):=inv_ea ea_iRsv_inj (x:=(m,h)) h0
theorem d_iRsv (m:Ml) (h:Hd):f_iRsv (m,h)=rsv m h:=rfl
def i_iRsv:Nat:=112
noncomputable abbrev F_iRsv:Func:=f112
def kp_iRsv:List (Nat × List Nat):=[(0,[8,9,12,13]),(1,[8,9,12,13,36]),(2,[16,20]),(3,[24]),(4,[24,56]),(5,[16,20]),(6,[16,20])]
noncomputable abbrev tb14:Sems:=tabS [(i_iHOk,e_iHOk),(i_iRoomOf,e_iRoomOf)]
theorem pre_iRsv (m:Ml) (h:Hd) (n:Nat):body prog tb14 kp_iRsv n F_iRsv [aR m.cs,aR h.cs]=(bif decide (0≤h.1) then bif !decide (1≤h.2) then some ([(false,[.tr true (T.int i64 (-1))]),(false,[.tr true (T.int i64 1)])],[(false,[]),(false,[])]) else entK ok_iRoomOf ea_iRoomOf (f_iRoomOf) [(wMl m),(wHd h)] fun (r1:Int)=>bif decide (r1 < 0) then some ([(false,[.tr true (T.int i64 (-1))]),(false,[.tr true (T.int i64 2)])],[(false,[]),(false,[])]) else some ([(false,[.tr true (T.int i64 r1)]),(false,[.tr true (T.int i64 0)])],[(false,[]),(false,[])]) else some ([(false,[.tr true (T.int i64 (-1))]),(false,[.tr true (T.int i64 1)])],[(false,[]),(false,[])])):=by kernel_rfl
def ok_sRsv (x:Ml × Hd):Prop:=x.1.rooms.length≤LM
def ea_sRsv (x:Ml × Hd):List Arg:=[aR x.1.cs,aR x.2.cs]
def f_sRsv (x:Ml × Hd):Int × Int:=rsv x.1 x.2
noncomputable def e_sRsv:Ent:=ent [] ok_sRsv ea_sRsv (fun (x:Int × Int)=>([oT (.int .i64 x.1),oT (.int .i64 x.2)],[nul,nul])) f_sRsv
theorem ea_sRsv_inj (x y:Ml × Hd) (h:ea_sRsv x=ea_sRsv y):x=y:=by
 obtain ⟨m1,h1⟩:=x
 obtain ⟨m2,h2⟩:=y
 simp only [ea_sRsv,List.cons.injEq,and_true,true_and] at h
 obtain ⟨e0,e1⟩:=h
 obtain rfl:=Ml.cs_ext (aR_inj e0)
 obtain rfl:=Hd.cs_ext (aR_inj e1)
 rfl
theorem dm_sRsv {m:Ml} {h:Hd} (h0:ok_sRsv (m,h)):dom ok_sRsv ea_sRsv [(wMl m),(wHd h)]=true:=dom_ea (ea:=ea_sRsv) (x:=(m,h)) h0
theorem iv_sRsv {m:Ml} {h:Hd} (h0:ok_sRsv (m,h)):inv ok_sRsv ea_sRsv [(wMl m),(wHd h)]=(m,h):=inv_ea ea_sRsv_inj (x:=(m,h)) h0
theorem d_sRsv (m:Ml) (h:Hd):f_sRsv (m,h)=rsv m h:=rfl
def i_sRsv:Nat:=97
noncomputable abbrev F_sRsv:Func:=f97
def kp_sRsv:List (Nat × List Nat):=[(0,[8,9,12,13]),(1,[8,9,12,13,36]),(2,[16,20]),(3,[24]),(4,[24,56]),(5,[16,20]),(6,[16,20])]
noncomputable abbrev tb15:Sems:=tabS [(i_sHOk,e_sHOk),(i_sRoomOf,e_sRoomOf)]
theorem pre_sRsv (m:Ml) (h:Hd) (n:Nat):body prog tb15 kp_sRsv n F_sRsv [aR m.cs,aR h.cs]=(bif decide (0≤h.1) then bif !decide (1≤h.2) then some ([(false,[.tr true (T.int i64 (-1))]),(false,[.tr true (T.int i64 1)])],[(false,[]),(false,[])]) else entK ok_sRoomOf ea_sRoomOf (f_sRoomOf) [(wMl m),(wHd h)] fun (r1:Int)=>bif decide (r1 < 0) then some ([(false,[.tr true (T.int i64 (-1))]),(false,[.tr true (T.int i64 2)])],[(false,[]),(false,[])]) else some ([(false,[.tr true (T.int i64 r1)]),(false,[.tr true (T.int i64 0)])],[(false,[]),(false,[])]) else some ([(false,[.tr true (T.int i64 (-1))]),(false,[.tr true (T.int i64 1)])],[(false,[]),(false,[])])):=by kernel_rfl
end Go.Mach.F
namespace Go.Mach.F
open Go Go.Mach Go.Proofs.Tryz
theorem body_iRsv (m:Ml) (h:Hd) (n:Nat) (h0:ok_iRsv (m,h)):body prog tb14 kp_iRsv n F_iRsv (ea_iRsv (m,h))=some ([oT (.int .i64 (f_iRsv (m,h)).1),oT (.int .i64 (f_iRsv (m,h)).2)],[nul,nul]):=by
 have c0:ok_iRoomOf (m,h):=h0
 unfold ea_iRsv f_iRsv rsv hOk
 dsimp only
 rw [pre_iRsv]
 by_cases a1:0≤h.slot
 case neg =>
  simp only [a1,decide_false,cond_false,Bool.false_and]
  rfl
 by_cases a2:1≤h.gen
 case neg =>
  simp only [a1,a2,decide_true,decide_false,cond_true,cond_false,Bool.and_false,Bool.not_false]
  rfl
 simp only [a1,a2,decide_true,cond_true,Bool.and_self,Bool.not_true,cond_false,eL_T,Ml.cs,Hd.cs]
 rw [entK_of (dm_iRoomOf c0) (iv_iRoomOf c0)]
 simp only [d_iRoomOf]
 by_cases e:rof m.rooms h < 0
 ·simp only [e,decide_true,cond_true]
  rfl
 ·simp only [e,decide_false,cond_false]
  rfl
theorem s_iRsv:EntOk prog i_iRsv e_iRsv:=ent_ok ea_iRsv_inj fun x hx =>
 body_sound (φ:=tb14) (tabS_cons s_iHOk (tabS_cons s_iRoomOf tabS_nil)) mixed (kp:=kp_iRsv) (n:=0) func112 (c:=bodyOf F_iRsv) (by kernel_rfl) (body_iRsv x.1 x.2 (0) hx) (name_ok (by kernel_rfl))
theorem body_sRsv (m:Ml) (h:Hd) (n:Nat) (h0:ok_sRsv (m,h)):body prog tb15 kp_sRsv n F_sRsv (ea_sRsv (m,h))=some ([oT (.int .i64 (f_sRsv (m,h)).1),oT (.int .i64 (f_sRsv (m,h)).2)],[nul,nul]):=by
 have c0:ok_sRoomOf (m,h):=h0
 unfold ea_sRsv f_sRsv rsv hOk
 dsimp only
 rw [pre_sRsv]
 by_cases a1:0≤h.slot
 case neg =>
  simp only [a1,decide_false,cond_false,Bool.false_and]
  rfl
 by_cases a2:1≤h.gen
 case neg =>
  simp only [a1,a2,decide_true,decide_false,cond_true,cond_false,Bool.and_false,Bool.not_false]
  rfl
 simp only [a1,a2,decide_true,cond_true,Bool.and_self,Bool.not_true,cond_false,eL_T,Ml.cs,Hd.cs]
 rw [entK_of (dm_sRoomOf c0) (iv_sRoomOf c0)]
 simp only [d_sRoomOf]
 by_cases e:rof m.rooms h < 0
 ·simp only [e,decide_true,cond_true]
  rfl
 ·simp only [e,decide_false,cond_false]
  rfl
theorem s_sRsv:EntOk prog i_sRsv e_sRsv:=ent_ok ea_sRsv_inj fun x hx =>
 body_sound (φ:=tb15) (tabS_cons s_sHOk (tabS_cons s_sRoomOf tabS_nil)) mixed (kp:=kp_sRsv) (n:=0) func97 (c:=bodyOf F_sRsv) (by kernel_rfl) (body_sRsv x.1 x.2 (0) hx) (name_ok (by kernel_rfl))
theorem rsv_ok {m:Ml} {h:Hd} (e:(rsv m h).2=0):0≤(rsv m h).1∧(rsv m h).1.toNat < m.rooms.length:=by
 unfold rsv at e ⊢
 cases hr:hOk h with
 | false =>
  rw [hr] at e
  simp at e
 | true =>
  rw [hr] at e
  simp only [cond_true] at e ⊢
  by_cases h1:rof m.rooms h < 0
  ·simp only [h1,decide_true,cond_true] at e
   simp at e
  ·simp only [h1,decide_false,cond_false]
   exact rof_lt h1
end Go.Mach.F
namespace Go.Mach.F
open Go Go.Mach Go.Proofs.Tryz Go.IntKind
--=set_option maxRecDepth 100000
def ok_iModel (x:Ml):Prop:=ok_RmS x.rooms∧ok_LI x.log
def ea_iModel (x:Ml):List Arg:=[aR x.cs]
def f_iModel (x:Ml):Ml:=x
noncomputable def e_iModel:Ent:=ent [] ok_iModel ea_iModel (fun m=>erR 1 m.cs) f_iModel
theorem ea_iModel_inj (x y:Ml) (h:ea_iModel x=ea_iModel y):x=y:=by
 simp only [ea_iModel,List.cons.injEq,and_true,true_and] at h
 exact Ml.cs_ext (aR_inj h)
theorem dm_iModel {m:Ml} (h:ok_iModel m):dom ok_iModel ea_iModel [(wMl m)]=true:=dom_ea (ea:=ea_iModel) (x:=m) h
theorem iv_iModel {m:Ml} (h:ok_iModel m):inv ok_iModel ea_iModel [(wMl m)]=m:=inv_ea ea_iModel_inj (x:=m) h
theorem d_iModel (m:Ml):f_iModel m=m:=rfl
def i_iModel:Nat:=57
noncomputable abbrev F_iModel:Func:=f57
def kp_iModel:List (Nat × List Nat):=[(0,[4,5,8,9,12,13,28,40,44,108]),(1,[4,5,8,9,12,13,28,40,44,108]),(2,[4,5,8,9,12,13,28,40,44,48,52,56,60,108]),(3,[4,5,8,9,12,13,28,40,44,48,52,56,60,64,108]),(4,[4,5,8,9,12,13,20,21,28,40,44,48,52,56,60,68,72,108]),(5,[4,5,8,9,12,13,28,40,44,48,52,56,60,108]),(6,[4,5,8,9,12,13,28,40,44,48,52,56,60,108]),(7,[8,9,12,13,28,40,44,108])]
def ts_iModel:List Nat:=[0]
def st_iModel_1 (m:Ml) (r1:List Int) (nx13_6:Nat) (fx13_6:Nat→Nat→T) (x60:Int):St:=[(4,⟨z0,[(false,[(C.pt (Pt.ptr 5 0 [] 8 0 0))])]⟩),(5,⟨z0,[(true,[.tr true (T.int i64 m.c.1),.tr true (T.int i64 m.c.2),.tr true (T.int i64 m.c.3),.tr true (T.int i64 m.c.4),.tr true (T.int i64 m.c.5),.tr true (T.int i64 m.c.6),.tr false (eL 11 Rm.cs m.2),.tr false (eL 1 rowI m.3)])]⟩),(8,⟨z0,[(false,[(C.pt (Pt.ptr 9 0 [] 8 0 0))])]⟩),(9,⟨z0,[(true,[.tr true (T.int i64 0),.tr true (T.int i64 0),.tr true (T.int i64 0),.tr true (T.int i64 0),.tr true (T.int i64 0),.tr true (T.int i64 0),.tr true (.arr (11) (0) (fun x x_1=>T.hole)),.tr true (.arr (1) (0) (fun x x_1=>T.hole))])]⟩),(12,⟨z0,[(false,[(C.pt (Pt.ptr 13 0 [] 8 0 0))])]⟩),(13,⟨z0,[(true,[.tr true (T.int i64 m.c.1),.tr true (T.int i64 m.c.2),.tr true (T.int i64 m.c.3),.tr true (T.int i64 m.c.4),.tr true (T.int i64 m.c.5),.tr true (T.int i64 m.c.6),.tr true (.arr (11) (nx13_6) (fx13_6)),.tr true (.arr (1) (r1.length) (atL rowI r1))])]⟩),(28,⟨z0,[(true,[.tr true (T.int i64 m.c.1),.tr true (T.int i64 m.c.2),.tr true (T.int i64 m.c.3),.tr true (T.int i64 m.c.4),.tr true (T.int i64 m.c.5),.tr true (T.int i64 m.c.6)])]⟩),(40,⟨z0,[(false,[.tr true (T.hole)])]⟩),(44,⟨z0,[(true,[.tr true (T.int i64 m.c.1),.tr true (T.int i64 m.c.2),.tr true (T.int i64 m.c.3),.tr true (T.int i64 m.c.4),.tr true (T.int i64 m.c.5),.tr true (T.int i64 m.c.6),.tr true (T.hole),.tr true (T.hole)])]⟩),(48,⟨z0,[(false,[(C.pt (Pt.ptr 5 0 [] 8 0 6))])]⟩),(52,⟨z0,[(false,[.tr false (eL 11 Rm.cs m.2)])]⟩),(56,⟨z0,[(false,[.tr true (T.int i64 (↑m.2.length:Int))])]⟩),(60,⟨z0,[(false,[.tr true (T.int i64 x60)])]⟩)]
def ex_iModel_1_1 (m:Ml) (r1:List Int) (nx13_6:Nat) (fx13_6:Nat→Nat→T) (x60:Int):St:=[(4,⟨z0,[(false,[(C.pt (Pt.ptr 5 0 [] 8 0 0))])]⟩),(5,⟨z0,[(true,[.tr true (T.int i64 m.c.1),.tr true (T.int i64 m.c.2),.tr true (T.int i64 m.c.3),.tr true (T.int i64 m.c.4),.tr true (T.int i64 m.c.5),.tr true (T.int i64 m.c.6),.tr false (eL 11 Rm.cs m.2),.tr false (eL 1 rowI m.3)])]⟩),(8,⟨z0,[(false,[(C.pt (Pt.ptr 9 0 [] 8 0 0))])]⟩),(9,⟨z0,[(true,[.tr true (T.int i64 0),.tr true (T.int i64 0),.tr true (T.int i64 0),.tr true (T.int i64 0),.tr true (T.int i64 0),.tr true (T.int i64 0),.tr true (.arr (11) (0) (fun x x_1=>T.hole)),.tr true (.arr (1) (0) (fun x x_1=>T.hole))])]⟩),(12,⟨z0,[(false,[(C.pt (Pt.ptr 13 0 [] 8 0 0))])]⟩),(13,⟨z0,[(true,[.tr true (T.int i64 m.c.1),.tr true (T.int i64 m.c.2),.tr true (T.int i64 m.c.3),.tr true (T.int i64 m.c.4),.tr true (T.int i64 m.c.5),.tr true (T.int i64 m.c.6),.tr true (.arr (11) (nx13_6) (fx13_6)),.tr true (.arr (1) (r1.length) (atL rowI r1))])]⟩),(28,⟨z0,[(true,[.tr true (T.int i64 m.c.1),.tr true (T.int i64 m.c.2),.tr true (T.int i64 m.c.3),.tr true (T.int i64 m.c.4),.tr true (T.int i64 m.c.5),.tr true (T.int i64 m.c.6)])]⟩),(40,⟨z0,[(false,[.tr true (T.hole)])]⟩),(44,⟨z0,[(true,[.tr true (T.int i64 m.c.1),.tr true (T.int i64 m.c.2),.tr true (T.int i64 m.c.3),.tr true (T.int i64 m.c.4),.tr true (T.int i64 m.c.5),.tr true (T.int i64 m.c.6),.tr true (T.hole),.tr true (T.hole)])]⟩),(48,⟨z0,[(false,[(C.pt (Pt.ptr 5 0 [] 8 0 6))])]⟩),(52,⟨z0,[(false,[.tr false (eL 11 Rm.cs m.2)])]⟩),(56,⟨z0,[(false,[.tr true (T.int i64 (↑m.2.length:Int))])]⟩),(60,⟨z0,[(false,[.tr true (T.int i64 x60)])]⟩),(64,⟨z0,[]⟩)]
noncomputable abbrev tb16:Sems:=tabS [(i_iRoom,e_iRoom),(i_clI,e_clI)]
theorem round_iModel_1 (m:Ml) (r1:List Int) (nx13_6:Nat) (fx13_6:Nat→Nat→T) (x60:Int) (n:Nat) (K:Ex→St→Res):roundAt prog tb16 kp_iModel F_iModel [1,1,0,1,0] n (st_iModel_1 m r1 nx13_6 fx13_6 x60) K=(bif decide (x60 < (↑m.2.length:Int)) then gd (decide (0≤x60)&&(x60.toNat.blt m.2.length&&true))<|gd (T.isI i64 (atL Rm.cs m.2 x60.toNat 0)&&T.isI i64 (atL Rm.cs m.2 x60.toNat 1)&&T.isI i64 (atL Rm.cs m.2 x60.toNat 2)&&T.isI i64 (atL Rm.cs m.2 x60.toNat 3)&&((atL Rm.cs m.2 x60.toNat 4).isArr&&(atL Rm.cs m.2 x60.toNat 4).wd.beq 2)&&T.isI i64 (atL Rm.cs m.2 x60.toNat 5)&&T.isI i64 (atL Rm.cs m.2 x60.toNat 6)&&(atL Rm.cs m.2 x60.toNat 7).isB&&T.isI i64 (atL Rm.cs m.2 x60.toNat 8)&&((atL Rm.cs m.2 x60.toNat 9).isArr&&(atL Rm.cs m.2 x60.toNat 9).wd.beq 1)&&((atL Rm.cs m.2 x60.toNat 10).isArr&&(atL Rm.cs m.2 x60.toNat 10).wd.beq 1))<|entK ok_iRoom ea_iRoom (f_iRoom) [(0,true,[C.tr false (T.int i64 (atL Rm.cs m.2 x60.toNat 0).toI),C.tr false (T.int i64 (atL Rm.cs m.2 x60.toNat 1).toI),C.tr false (T.int i64 (atL Rm.cs m.2 x60.toNat 2).toI),C.tr false (T.int i64 (atL Rm.cs m.2 x60.toNat 3).toI),C.tr false (T.arr 2 (atL Rm.cs m.2 x60.toNat 4).ln (atL Rm.cs m.2 x60.toNat 4).fn),C.tr false (T.int i64 (atL Rm.cs m.2 x60.toNat 5).toI),C.tr false (T.int i64 (atL Rm.cs m.2 x60.toNat 6).toI),C.tr false (T.bool (atL Rm.cs m.2 x60.toNat 7).toB),C.tr false (T.int i64 (atL Rm.cs m.2 x60.toNat 8).toI),C.tr false (T.arr 1 (atL Rm.cs m.2 x60.toNat 9).ln (atL Rm.cs m.2 x60.toNat 9).fn),C.tr false (T.arr 1 (atL Rm.cs m.2 x60.toNat 10).ln (atL Rm.cs m.2 x60.toNat 10).fn)])] fun (r2:Rm)=>gl r2.3.length<|gl r2.8.length<|gl r2.9.length<|gl nx13_6<|gd (((nx13_6+1) * 136).ble 70368744177664&&(nx13_6+1).ble 70368744177664)<|gd ((nx13_6+1).ble (nx13_6+1)&&true)<|K .normal (st_iModel_1 m r1 (nx13_6+1) (appF nx13_6 fx13_6 (rowsT [[T.int i64 r2.h.1,T.int i64 r2.h.2,T.int i64 r2.up.1,T.int i64 r2.up.2,T.arr 2 r2.3.length (eL 2 Hd.cs r2.3).fn,T.int i64 r2.4,T.int i64 r2.5,T.bool r2.6,T.int i64 r2.7,T.arr 1 r2.8.length (eL 1 Sf.cs r2.8).fn,T.arr 1 r2.9.length (eL 1 rowI r2.9).fn]])) (i64.wrap (x60+1))) else K (.exit 0) (ex_iModel_1_1 m r1 nx13_6 fx13_6 x60)):=by kernel_rfl
theorem post_iModel_1_1 (m:Ml) (r1:List Int) (nx13_6:Nat) (fx13_6:Nat→Nat→T) (x60:Int) (n:Nat):contAt prog tb16 kp_iModel F_iModel ts_iModel [1,1,0,1,0] [] n (.exit 0) (ex_iModel_1_1 m r1 nx13_6 fx13_6 x60)=(gl nx13_6<|gl r1.length<|gl nx13_6<|gl r1.length<|some ([(true,[.tr true (T.int i64 m.c.1),.tr true (T.int i64 m.c.2),.tr true (T.int i64 m.c.3),.tr true (T.int i64 m.c.4),.tr true (T.int i64 m.c.5),.tr true (T.int i64 m.c.6),.tr true (.arr (11) (nx13_6) (fx13_6)),.tr true (.arr (1) (r1.length) (atL rowI r1))])],[(false,[])])):=by kernel_rfl
theorem pre_iModel (m:Ml) (n:Nat):body prog tb16 kp_iModel n F_iModel [aR m.cs]=(entK ok_clI ea_clI (f_clI) [(0,false,[C.tr false (eL 1 rowI m.3)])] fun (r1:List Int)=>gl r1.length<|gl r1.length<|loopAt prog tb16 kp_iModel F_iModel [1,1,0,1,0] n n (st_iModel_1 m r1 (0) (fun x x_1=>T.hole) (0)) (contAt prog tb16 kp_iModel F_iModel ts_iModel [1,1,0,1,0] [] n)):=by kernel_rfl
def ok_sModel (x:Ml):Prop:=ok_RmS x.rooms∧ok_LI x.log
def ea_sModel (x:Ml):List Arg:=[aR x.cs]
def f_sModel (x:Ml):Ml:=x
noncomputable def e_sModel:Ent:=ent [] ok_sModel ea_sModel (fun m=>erR 1 m.cs) f_sModel
theorem ea_sModel_inj (x y:Ml) (h:ea_sModel x=ea_sModel y):x=y:=by
 simp only [ea_sModel,List.cons.injEq,and_true,true_and] at h
 exact Ml.cs_ext (aR_inj h)
theorem dm_sModel {m:Ml} (h:ok_sModel m):dom ok_sModel ea_sModel [(wMl m)]=true:=dom_ea (ea:=ea_sModel) (x:=m) h
theorem iv_sModel {m:Ml} (h:ok_sModel m):inv ok_sModel ea_sModel [(wMl m)]=m:=inv_ea ea_sModel_inj (x:=m) h
theorem d_sModel (m:Ml):f_sModel m=m:=rfl
def i_sModel:Nat:=43
noncomputable abbrev F_sModel:Func:=f43
def kp_sModel:List (Nat × List Nat):=[(0,[4,5,8,9,12,13,28,32,36,40,44,48,52,132]),(1,[4,5,8,9,12,13,28,32,36,40,44,48,52,132]),(2,[4,5,8,9,12,13,16,28,32,36,40,44,48,52,132]),(3,[4,5,8,9,12,13,16,28,32,36,40,44,48,52,72,132]),(4,[4,5,8,9,12,13,16,28,32,36,40,44,48,52,132]),(5,[4,5,8,9,12,13,16,20,21,28,32,36,40,44,48,52,104,132]),(6,[4,5,8,9,12,13,16,28,32,36,40,44,48,52,132]),(7,[4,5,8,9,12,13,28,32,36,40,44,48,52,132])]
def ts_sModel:List Nat:=[0]
def st_sModel_1 (m:Ml) (nx13_6:Nat) (fx13_6:Nat→Nat→T) (x16:Int):St:=[(4,⟨z0,[(false,[(C.pt (Pt.ptr 5 0 [] 8 0 0))])]⟩),(5,⟨z0,[(true,[.tr true (T.int i64 m.c.1),.tr true (T.int i64 m.c.2),.tr true (T.int i64 m.c.3),.tr true (T.int i64 m.c.4),.tr true (T.int i64 m.c.5),.tr true (T.int i64 m.c.6),.tr false (eL 11 Rm.cs m.2),.tr false (eL 1 rowI m.3)])]⟩),(8,⟨z0,[(false,[(C.pt (Pt.ptr 9 0 [] 8 0 0))])]⟩),(9,⟨z0,[(true,[.tr true (T.int i64 0),.tr true (T.int i64 0),.tr true (T.int i64 0),.tr true (T.int i64 0),.tr true (T.int i64 0),.tr true (T.int i64 0),.tr true (.arr (11) (0) (fun x x_1=>T.hole)),.tr true (.arr (1) (0) (fun x x_1=>T.hole))])]⟩),(12,⟨z0,[(false,[(C.pt (Pt.ptr 13 0 [] 8 0 0))])]⟩),(13,⟨z0,[(true,[.tr true (T.int i64 m.c.1),.tr true (T.int i64 m.c.2),.tr true (T.int i64 m.c.3),.tr true (T.int i64 m.c.4),.tr true (T.int i64 m.c.5),.tr true (T.int i64 m.c.6),.tr true (.arr (11) (nx13_6) (fx13_6)),.tr true (.arr (1) (0+m.3.length) (appF 0 (rowsT []) (plainF (atL rowI m.3))))])]⟩),(16,⟨z0,[(false,[.tr true (T.int i64 x16)])]⟩),(28,⟨z0,[(true,[.tr true (T.int i64 m.c.1),.tr true (T.int i64 m.c.2),.tr true (T.int i64 m.c.3),.tr true (T.int i64 m.c.4),.tr true (T.int i64 m.c.5),.tr true (T.int i64 m.c.6)])]⟩),(32,⟨z0,[(false,[.tr true (T.hole)])]⟩),(36,⟨z0,[(false,[.tr true (T.hole)])]⟩),(40,⟨z0,[(false,[(C.pt (Pt.ptr 5 0 [] 8 0 7))])]⟩),(44,⟨z0,[(false,[.tr false (eL 1 rowI m.3)])]⟩),(48,⟨z0,[(false,[.tr true (T.hole)])]⟩),(52,⟨z0,[(true,[.tr true (T.int i64 m.c.1),.tr true (T.int i64 m.c.2),.tr true (T.int i64 m.c.3),.tr true (T.int i64 m.c.4),.tr true (T.int i64 m.c.5),.tr true (T.int i64 m.c.6),.tr true (T.hole),.tr true (T.hole)])]⟩)]
def ex_sModel_1_1 (m:Ml) (nx13_6:Nat) (fx13_6:Nat→Nat→T) (x16:Int):St:=[(4,⟨z0,[(false,[(C.pt (Pt.ptr 5 0 [] 8 0 0))])]⟩),(5,⟨z0,[(true,[.tr true (T.int i64 m.c.1),.tr true (T.int i64 m.c.2),.tr true (T.int i64 m.c.3),.tr true (T.int i64 m.c.4),.tr true (T.int i64 m.c.5),.tr true (T.int i64 m.c.6),.tr false (eL 11 Rm.cs m.2),.tr false (eL 1 rowI m.3)])]⟩),(8,⟨z0,[(false,[(C.pt (Pt.ptr 9 0 [] 8 0 0))])]⟩),(9,⟨z0,[(true,[.tr true (T.int i64 0),.tr true (T.int i64 0),.tr true (T.int i64 0),.tr true (T.int i64 0),.tr true (T.int i64 0),.tr true (T.int i64 0),.tr true (.arr (11) (0) (fun x x_1=>T.hole)),.tr true (.arr (1) (0) (fun x x_1=>T.hole))])]⟩),(12,⟨z0,[(false,[(C.pt (Pt.ptr 13 0 [] 8 0 0))])]⟩),(13,⟨z0,[(true,[.tr true (T.int i64 m.c.1),.tr true (T.int i64 m.c.2),.tr true (T.int i64 m.c.3),.tr true (T.int i64 m.c.4),.tr true (T.int i64 m.c.5),.tr true (T.int i64 m.c.6),.tr true (.arr (11) (nx13_6) (fx13_6)),.tr true (.arr (1) (0+m.3.length) (appF 0 (rowsT []) (plainF (atL rowI m.3))))])]⟩),(16,⟨z0,[(false,[.tr true (T.int i64 x16)])]⟩),(28,⟨z0,[(true,[.tr true (T.int i64 m.c.1),.tr true (T.int i64 m.c.2),.tr true (T.int i64 m.c.3),.tr true (T.int i64 m.c.4),.tr true (T.int i64 m.c.5),.tr true (T.int i64 m.c.6)])]⟩),(32,⟨z0,[(false,[.tr true (T.hole)])]⟩),(36,⟨z0,[(false,[.tr true (T.hole)])]⟩),(40,⟨z0,[(false,[(C.pt (Pt.ptr 5 0 [] 8 0 7))])]⟩),(44,⟨z0,[(false,[.tr false (eL 1 rowI m.3)])]⟩),(48,⟨z0,[(false,[.tr true (T.hole)])]⟩),(52,⟨z0,[(true,[.tr true (T.int i64 m.c.1),.tr true (T.int i64 m.c.2),.tr true (T.int i64 m.c.3),.tr true (T.int i64 m.c.4),.tr true (T.int i64 m.c.5),.tr true (T.int i64 m.c.6),.tr true (T.hole),.tr true (T.hole)])]⟩),(72,⟨z0,[]⟩)]
theorem round_sModel_1 (m:Ml) (nx13_6:Nat) (fx13_6:Nat→Nat→T) (x16:Int) (n:Nat) (K:Ex→St→Res):roundAt prog (tabS [(i_sRoom,e_sRoom)]) kp_sModel F_sModel [1,1,0,1,0] n (st_sModel_1 m nx13_6 fx13_6 x16) K=(bif decide (x16 < (↑m.2.length:Int)) then gd (decide (0≤x16)&&(x16.toNat.blt m.2.length&&true))<|gd (T.isI i64 (atL Rm.cs m.2 x16.toNat 0)&&T.isI i64 (atL Rm.cs m.2 x16.toNat 1)&&T.isI i64 (atL Rm.cs m.2 x16.toNat 2)&&T.isI i64 (atL Rm.cs m.2 x16.toNat 3)&&((atL Rm.cs m.2 x16.toNat 4).isArr&&(atL Rm.cs m.2 x16.toNat 4).wd.beq 2)&&T.isI i64 (atL Rm.cs m.2 x16.toNat 5)&&T.isI i64 (atL Rm.cs m.2 x16.toNat 6)&&(atL Rm.cs m.2 x16.toNat 7).isB&&T.isI i64 (atL Rm.cs m.2 x16.toNat 8)&&((atL Rm.cs m.2 x16.toNat 9).isArr&&(atL Rm.cs m.2 x16.toNat 9).wd.beq 1)&&((atL Rm.cs m.2 x16.toNat 10).isArr&&(atL Rm.cs m.2 x16.toNat 10).wd.beq 1))<|entK ok_sRoom ea_sRoom (f_sRoom) [(0,true,[C.tr false (T.int i64 (atL Rm.cs m.2 x16.toNat 0).toI),C.tr false (T.int i64 (atL Rm.cs m.2 x16.toNat 1).toI),C.tr false (T.int i64 (atL Rm.cs m.2 x16.toNat 2).toI),C.tr false (T.int i64 (atL Rm.cs m.2 x16.toNat 3).toI),C.tr false (T.arr 2 (atL Rm.cs m.2 x16.toNat 4).ln (atL Rm.cs m.2 x16.toNat 4).fn),C.tr false (T.int i64 (atL Rm.cs m.2 x16.toNat 5).toI),C.tr false (T.int i64 (atL Rm.cs m.2 x16.toNat 6).toI),C.tr false (T.bool (atL Rm.cs m.2 x16.toNat 7).toB),C.tr false (T.int i64 (atL Rm.cs m.2 x16.toNat 8).toI),C.tr false (T.arr 1 (atL Rm.cs m.2 x16.toNat 9).ln (atL Rm.cs m.2 x16.toNat 9).fn),C.tr false (T.arr 1 (atL Rm.cs m.2 x16.toNat 10).ln (atL Rm.cs m.2 x16.toNat 10).fn)])] fun (r1:Rm)=>gl r1.3.length<|gl r1.8.length<|gl r1.9.length<|gl r1.3.length<|gl r1.8.length<|gl r1.9.length<|gl nx13_6<|gd (((nx13_6+1) * 136).ble 70368744177664&&(nx13_6+1).ble 70368744177664)<|gd ((nx13_6+1).ble (nx13_6+1)&&true)<|K .normal (st_sModel_1 m (nx13_6+1) (appF nx13_6 fx13_6 (rowsT [[T.int i64 r1.h.1,T.int i64 r1.h.2,T.int i64 r1.up.1,T.int i64 r1.up.2,T.arr 2 r1.3.length (eL 2 Hd.cs r1.3).fn,T.int i64 r1.4,T.int i64 r1.5,T.bool r1.6,T.int i64 r1.7,T.arr 1 r1.8.length (eL 1 Sf.cs r1.8).fn,T.arr 1 r1.9.length (eL 1 rowI r1.9).fn]])) (i64.wrap (x16+1))) else K (.exit 0) (ex_sModel_1_1 m nx13_6 fx13_6 x16)):=by kernel_rfl
theorem post_sModel_1_1 (m:Ml) (nx13_6:Nat) (fx13_6:Nat→Nat→T) (x16:Int) (n:Nat):contAt prog (tabS [(i_sRoom,e_sRoom)]) kp_sModel F_sModel ts_sModel [1,1,0,1,0] [] n (.exit 0) (ex_sModel_1_1 m nx13_6 fx13_6 x16)=(gl nx13_6<|gd ((0+m.3.length).ble (0+m.3.length)&&true)<|gl nx13_6<|gd ((0+m.3.length).ble (0+m.3.length)&&true)<|some ([(true,[.tr true (T.int i64 m.c.1),.tr true (T.int i64 m.c.2),.tr true (T.int i64 m.c.3),.tr true (T.int i64 m.c.4),.tr true (T.int i64 m.c.5),.tr true (T.int i64 m.c.6),.tr true (.arr (11) (nx13_6) (fx13_6)),.tr true (.arr (1) (0+m.3.length) (appF 0 (rowsT []) (plainF (atL rowI m.3))))])],[(false,[])])):=by kernel_rfl
theorem pre_sModel (m:Ml) (n:Nat):body prog (tabS [(i_sRoom,e_sRoom)]) kp_sModel n F_sModel [aR m.cs]=(gd (((0+m.3.length) * 8).ble 70368744177664&&(0+m.3.length).ble 70368744177664)<|gd ((0+m.3.length).ble (0+m.3.length)&&true)<|gd ((0+m.3.length).ble (0+m.3.length)&&true)<|loopAt prog (tabS [(i_sRoom,e_sRoom)]) kp_sModel F_sModel [1,1,0,1,0] n n (st_sModel_1 m (0) (rowsT []) (0)) (contAt prog (tabS [(i_sRoom,e_sRoom)]) kp_sModel F_sModel ts_sModel [1,1,0,1,0] [] n)):=by kernel_rfl
end Go.Mach.F
namespace Go.Mach.F
open Go Go.Mach Go.Proofs.Tryz
theorem body_iModel (m:Ml) (h:ok_iModel m):body prog tb16 kp_iModel (m.rooms.length+1) F_iModel (ea_iModel m)=some (erR 1 (f_iModel m).cs):=by
 have hlm:=lm
 obtain ⟨h0,h2⟩:ok_RmS m.rooms∧ok_LI m.log:=h
 have hl:m.rooms.length≤LM:=h0.1
 have ht:m.log.length≤LM:=h2
 unfold ea_iModel f_iModel
 rw [pre_iModel]
 have c1:ok_clI m.log:=h2
 try simp only [eL_T,Ml.cs]
 rw [entK_of (dm_clI c1) (iv_clI c1)]
 simp only [d_clI,rsx0,ble_d,Nat.le_refl]
 have hst:st_iModel_1 m m.log 0 (fun _ _=>T.hole) 0=(fun i:Nat=>st_iModel_1 m m.log i (atL Rm.cs (m.rooms.take i)) (i:Nat)) 0:=by
  rfl
 rw [hst,forLoop m.rooms.length (fun i:Nat=>st_iModel_1 m m.log i (atL Rm.cs (m.rooms.take i)) (i:Nat)) (ex_iModel_1_1 m m.log m.rooms.length (atL Rm.cs m.rooms) m.rooms.length) 0 (fun i K hi=>?_) (fun K=>?_) _ (Nat.le_refl _)]
 ·rw [post_iModel_1_1]
  have e2:appF 0 (rowsT []) (plainF (atL rowI m.log))=atL rowI m.log:=by rw [plain_I,app0]
  simp only [rsx0,ble_d,Nat.le_refl,e2]
  rfl
 ·have hx:=List.getElem?_eq_getElem hi
  obtain ⟨x,hxe⟩:∃ x,x=m.rooms[i]:=⟨_,rfl⟩
  rw [← hxe] at hx
  have c0:ok_iRoom x:=h0.2 _ (List.mem_of_getElem? hx)
  rw [round_iModel_1,← take_app Rm.cs hx]
  have hs:(i+1) * 136≤70368744177664:=by omega
  have hs2:i+1≤70368744177664:=by omega
  simp (disch:=omega) only [rsx0,eL_T,hi,atL_of hx,Rm.cs,wrapS]
  rw [entK_of (dm_iRoom c0) (iv_iRoom c0)]
  simp only [rsx0,eL_T,ble_d,Nat.le_refl,hs,hs2,d_iRoom]
 ·rw [round_iModel_1]
  simp only [lt_d,Nat.lt_irrefl,decide_false,cond_false,List.take_length]
theorem s_iModel:EntOk prog i_iModel e_iModel:=ent_ok ea_iModel_inj fun x hx =>
 body_sound (φ:=tb16) (tabS_cons s_iRoom (tabS_cons s_clI tabS_nil)) mixed (kp:=kp_iModel) (n:=x.rooms.length+1) func57 (c:=bodyOf F_iModel) (by kernel_rfl) (body_iModel x hx) (name_ok (by kernel_rfl))
theorem body_sModel (m:Ml) (h:ok_sModel m):body prog (tabS [(i_sRoom,e_sRoom)]) kp_sModel (m.rooms.length+1) F_sModel (ea_sModel m)=some (erR 1 (f_sModel m).cs):=by
 have hlm:=lm
 obtain ⟨h0,h2⟩:ok_RmS m.rooms∧ok_LI m.log:=h
 have hl:m.rooms.length≤LM:=h0.1
 have ht:m.log.length≤LM:=h2
 unfold ea_sModel f_sModel
 rw [pre_sModel]
 have q3:m.log.length * 8≤70368744177664:=by omega
 have q4:m.log.length≤70368744177664:=by omega
 simp only [rsx0,ble_d,Nat.le_refl,q3,q4]
 have hst:st_sModel_1 m 0 (rowsT []) 0=(fun i:Nat=>st_sModel_1 m i (atL Rm.cs (m.rooms.take i)) (i:Nat)) 0:=by
  rw [rowsT0 Rm.cs];rfl
 rw [hst,forLoop m.rooms.length (fun i:Nat=>st_sModel_1 m i (atL Rm.cs (m.rooms.take i)) (i:Nat)) (ex_sModel_1_1 m m.rooms.length (atL Rm.cs m.rooms) m.rooms.length) 0 (fun i K hi=>?_) (fun K=>?_) _ (Nat.le_refl _)]
 ·rw [post_sModel_1_1]
  have e2:appF 0 (rowsT []) (plainF (atL rowI m.log))=atL rowI m.log:=by rw [plain_I,app0]
  simp only [rsx0,ble_d,Nat.le_refl,e2]
  rfl
 ·have hx:=List.getElem?_eq_getElem hi
  obtain ⟨x,hxe⟩:∃ x,x=m.rooms[i]:=⟨_,rfl⟩
  rw [← hxe] at hx
  have c0:ok_sRoom x:=h0.2 _ (List.mem_of_getElem? hx)
  rw [round_sModel_1,← take_app Rm.cs hx]
  have hs:(i+1) * 136≤70368744177664:=by omega
  have hs2:i+1≤70368744177664:=by omega
  simp (disch:=omega) only [rsx0,eL_T,hi,atL_of hx,Rm.cs,wrapS]
  rw [entK_of (dm_sRoom c0) (iv_sRoom c0)]
  simp only [rsx0,eL_T,ble_d,Nat.le_refl,hs,hs2,d_sRoom]
 ·rw [round_sModel_1]
  simp only [lt_d,Nat.lt_irrefl,decide_false,cond_false,List.take_length]
theorem s_sModel:EntOk prog i_sModel e_sModel:=ent_ok ea_sModel_inj fun x hx =>
 body_sound (φ:=(tabS [(i_sRoom,e_sRoom)])) (tabS_cons s_sRoom tabS_nil) mixed (kp:=kp_sModel) (n:=x.rooms.length+1) func43 (c:=bodyOf F_sModel) (by kernel_rfl) (body_sModel x hx) (name_ok (by kernel_rfl))
end Go.Mach.F
namespace Go.Mach.F
open Go Go.Mach Go.Proofs.Tryz Go.IntKind
--=set_option maxRecDepth 100000
def refOk (r:Rf):Bool:=((decide (0≤r.h.slot)&&decide (1≤r.h.gen))&&decide (0≤r.ep))&&decide (0≤r.no)
def thg (m:Ml) (r:Rf):Int × Int:=bif refOk r then (bif decide (rof m.rooms r.h < 0) then (-1,2) else bif decide ((m.rooms.getD (rof m.rooms r.h).toNat zRm).ep=r.ep)&&decide (r.no < ((m.rooms.getD (rof m.rooms r.h).toNat zRm).things.length:Int)) then (rof m.rooms r.h,0) else (-1,2)) else (-1,1)
def ok_iThg (x:Ml × Rf):Prop:=x.1.rooms.length≤LM
def ea_iThg (x:Ml × Rf):List Arg:=[aR x.1.cs,aR x.2.cs]
def f_iThg (x:Ml × Rf):Int × Int:=thg x.1 x.2
noncomputable def e_iThg:Ent:=ent [] ok_iThg ea_iThg (fun (x:Int × Int)=>([oT (.int .i64 x.1),oT (.int .i64 x.2)],[nul,nul])) f_iThg
theorem ea_iThg_inj (x y:Ml × Rf) (h:ea_iThg x=ea_iThg y):x=y:=by
 obtain ⟨m1,r1⟩:=x
 obtain ⟨m2,r2⟩:=y
 simp only [ea_iThg,List.cons.injEq,and_true,true_and] at h
 obtain ⟨e0,e1⟩:=h
 obtain rfl:=Ml.cs_ext (aR_inj e0)
 obtain rfl:=Rf.cs_ext (aR_inj e1)
 rfl
theorem dm_iThg {m:Ml} {r:Rf} (h:ok_iThg (m,r)):dom ok_iThg ea_iThg [(wMl m),(wRf r)]=true:=dom_ea (ea:=ea_iThg) (x:=(m,r)) h
theorem iv_iThg {m:Ml} {r:Rf} (h:ok_iThg (m,r)):inv ok_iThg ea_iThg [(wMl m),(wRf r)]=(m,r):=inv_ea ea_iThg_inj (x:=(m,r)) h
theorem d_iThg (m:Ml) (r:Rf):f_iThg (m,r)=thg m r:=rfl
def i_iThg:Nat:=124
noncomputable abbrev F_iThg:Func:=f124
def kp_iThg:List (Nat × List Nat):=[(0,[8,9,12,13,68,72,76,80,84,88,92,96,100,112,116,120,124,128,132,136,140,144,148]),(1,[8,9,12,13,36,68,72,76,80,84,88,92,96,100,112,116,120,124,128,132,136,140,144,148]),(2,[16,20]),(3,[8,9,12,13,24,68,72,76,80,84,88,92,96,100,112,116,120,124,128,132,136,140,144,148]),(4,[24,152]),(5,[16,20]),(6,[16,20])]
noncomputable abbrev tb17:Sems:=tabS [(i_iROk,e_iROk),(i_iRoomOf,e_iRoomOf)]
theorem pre_iThg (m:Ml) (r:Rf) (n:Nat):body prog tb17 kp_iThg n F_iThg [aR m.cs,aR r.cs]=(bif decide (0≤r.h.1) then bif decide (1≤r.h.2) then bif decide (0≤r.2) then bif !decide (0≤r.3) then some ([(false,[.tr true (T.int i64 (-1))]),(false,[.tr true (T.int i64 1)])],[(false,[]),(false,[])]) else entK ok_iRoomOf ea_iRoomOf (f_iRoomOf) [(wMl m),(wHd r.h)] fun (r1:Int)=>bif decide (r1 < 0) then some ([(false,[.tr true (T.int i64 (-1))]),(false,[.tr true (T.int i64 2)])],[(false,[]),(false,[])]) else gd (decide (0≤r1)&&(r1.toNat.blt m.2.length&&true))<|gd (T.isI i64 (atL Rm.cs m.2 r1.toNat 5))<|bif (atL Rm.cs m.2 r1.toNat 5).toI != r.2 then some ([(false,[.tr true (T.int i64 (-1))]),(false,[.tr true (T.int i64 2)])],[(false,[]),(false,[])]) else gd (decide (0≤r1)&&(r1.toNat.blt m.2.length&&true))<|gd ((atL Rm.cs m.2 r1.toNat 9).isArr&&(atL Rm.cs m.2 r1.toNat 9).wd.beq 1)<|bif decide ((↑(atL Rm.cs m.2 r1.toNat 9).ln:Int)≤r.3) then some ([(false,[.tr true (T.int i64 (-1))]),(false,[.tr true (T.int i64 2)])],[(false,[]),(false,[])]) else some ([(false,[.tr true (T.int i64 r1)]),(false,[.tr true (T.int i64 0)])],[(false,[]),(false,[])]) else some ([(false,[.tr true (T.int i64 (-1))]),(false,[.tr true (T.int i64 1)])],[(false,[]),(false,[])]) else some ([(false,[.tr true (T.int i64 (-1))]),(false,[.tr true (T.int i64 1)])],[(false,[]),(false,[])]) else some ([(false,[.tr true (T.int i64 (-1))]),(false,[.tr true (T.int i64 1)])],[(false,[]),(false,[])])):=by kernel_rfl
def ok_sThg (x:Ml × Rf):Prop:=x.1.rooms.length≤LM
def ea_sThg (x:Ml × Rf):List Arg:=[aR x.1.cs,aR x.2.cs]
def f_sThg (x:Ml × Rf):Int × Int:=thg x.1 x.2
noncomputable def e_sThg:Ent:=ent [] ok_sThg ea_sThg (fun (x:Int × Int)=>([oT (.int .i64 x.1),oT (.int .i64 x.2)],[nul,nul])) f_sThg
theorem ea_sThg_inj (x y:Ml × Rf) (h:ea_sThg x=ea_sThg y):x=y:=by
 obtain ⟨m1,r1⟩:=x
 obtain ⟨m2,r2⟩:=y
 simp only [ea_sThg,List.cons.injEq,and_true,true_and] at h
 obtain ⟨e0,e1⟩:=h
 obtain rfl:=Ml.cs_ext (aR_inj e0)
 obtain rfl:=Rf.cs_ext (aR_inj e1)
 rfl
theorem dm_sThg {m:Ml} {r:Rf} (h:ok_sThg (m,r)):dom ok_sThg ea_sThg [(wMl m),(wRf r)]=true:=dom_ea (ea:=ea_sThg) (x:=(m,r)) h
theorem iv_sThg {m:Ml} {r:Rf} (h:ok_sThg (m,r)):inv ok_sThg ea_sThg [(wMl m),(wRf r)]=(m,r):=inv_ea ea_sThg_inj (x:=(m,r)) h
theorem d_sThg (m:Ml) (r:Rf):f_sThg (m,r)=thg m r:=rfl
def i_sThg:Nat:=103
noncomputable abbrev F_sThg:Func:=f103
def kp_sThg:List (Nat × List Nat):=[(0,[8,9,12,13,68,72,76,80,84,88,92,96,100,112,116,120,124,128,132,136,140,144,148]),(1,[8,9,12,13,36,68,72,76,80,84,88,92,96,100,112,116,120,124,128,132,136,140,144,148]),(2,[16,20]),(3,[8,9,12,13,24,68,72,76,80,84,88,92,96,100,112,116,120,124,128,132,136,140,144,148]),(4,[24,152]),(5,[16,20]),(6,[16,20])]
noncomputable abbrev tb18:Sems:=tabS [(i_sROk,e_sROk),(i_sRoomOf,e_sRoomOf)]
theorem pre_sThg (m:Ml) (r:Rf) (n:Nat):body prog tb18 kp_sThg n F_sThg [aR m.cs,aR r.cs]=(bif decide (0≤r.h.1) then bif decide (1≤r.h.2) then bif decide (0≤r.2) then bif !decide (0≤r.3) then some ([(false,[.tr true (T.int i64 (-1))]),(false,[.tr true (T.int i64 1)])],[(false,[]),(false,[])]) else entK ok_sRoomOf ea_sRoomOf (f_sRoomOf) [(wMl m),(wHd r.h)] fun (r1:Int)=>bif decide (r1 < 0) then some ([(false,[.tr true (T.int i64 (-1))]),(false,[.tr true (T.int i64 2)])],[(false,[]),(false,[])]) else gd (decide (0≤r1)&&(r1.toNat.blt m.2.length&&true))<|gd (T.isI i64 (atL Rm.cs m.2 r1.toNat 5))<|bif (atL Rm.cs m.2 r1.toNat 5).toI != r.2 then some ([(false,[.tr true (T.int i64 (-1))]),(false,[.tr true (T.int i64 2)])],[(false,[]),(false,[])]) else gd (decide (0≤r1)&&(r1.toNat.blt m.2.length&&true))<|gd ((atL Rm.cs m.2 r1.toNat 9).isArr&&(atL Rm.cs m.2 r1.toNat 9).wd.beq 1)<|bif decide ((↑(atL Rm.cs m.2 r1.toNat 9).ln:Int)≤r.3) then some ([(false,[.tr true (T.int i64 (-1))]),(false,[.tr true (T.int i64 2)])],[(false,[]),(false,[])]) else some ([(false,[.tr true (T.int i64 r1)]),(false,[.tr true (T.int i64 0)])],[(false,[]),(false,[])]) else some ([(false,[.tr true (T.int i64 (-1))]),(false,[.tr true (T.int i64 1)])],[(false,[]),(false,[])]) else some ([(false,[.tr true (T.int i64 (-1))]),(false,[.tr true (T.int i64 1)])],[(false,[]),(false,[])]) else some ([(false,[.tr true (T.int i64 (-1))]),(false,[.tr true (T.int i64 1)])],[(false,[]),(false,[])])):=by kernel_rfl
end Go.Mach.F
namespace Go.Mach.F
open Go Go.Mach Go.Proofs.Tryz
theorem body_iThg (m:Ml) (r:Rf) (n:Nat) (h:ok_iThg (m,r)):body prog tb17 kp_iThg n F_iThg (ea_iThg (m,r))=some ([oT (.int .i64 (f_iThg (m,r)).1),oT (.int .i64 (f_iThg (m,r)).2)],[nul,nul]):=by
 have hlm:=lm
 have hl:m.rooms.length≤LM:=h
 have c0:ok_iRoomOf (m,r.h):=hl
 unfold ea_iThg f_iThg thg refOk
 dsimp only
 rw [pre_iThg]
 by_cases a1:0≤r.h.slot
 case neg =>
  simp only [a1,decide_false,cond_false,Bool.false_and]
  rfl
 by_cases a2:1≤r.h.gen
 case neg =>
  simp only [a1,a2,decide_true,decide_false,cond_true,cond_false,Bool.and_false,Bool.false_and]
  rfl
 by_cases a3:0≤r.ep
 case neg =>
  simp only [a1,a2,a3,decide_true,decide_false,cond_true,cond_false,Bool.and_false,Bool.false_and,Bool.and_self]
  rfl
 by_cases a4:0≤r.no
 case neg =>
  simp only [a1,a2,a3,a4,decide_true,decide_false,cond_true,cond_false,Bool.and_false,Bool.false_and,Bool.and_self,Bool.not_false]
  rfl
 simp only [a1,a2,a3,a4,decide_true,cond_true,Bool.and_self,Bool.not_true,cond_false,eL_T,Ml.cs,Hd.cs,rsx0]
 rw [entK_of (dm_iRoomOf c0) (iv_iRoomOf c0)]
 simp only [d_iRoomOf]
 by_cases e:rof m.rooms r.h < 0
 ·simp only [e,decide_true,cond_true]
  rfl
 ·have e1:=rof_lt e
  obtain ⟨x,hre⟩:∃ x,x=m.rooms.getD (rof m.rooms r.h).toNat zRm:=⟨_,rfl⟩
  have hx:=getD_get e1.2
  rw [← hre] at hx ⊢
  simp only [rsx0,e,decide_false,cond_false,e1.1,e1.2,atL_of hx,Rm.cs,eL_T,int_ne]
  by_cases e2:x.ep=r.ep
  ·by_cases e3:r.no < (x.things.length:Int)
   ·have e4:¬ (x.things.length:Int)≤r.no:=by omega
    simp only [e2,e3,e4,decide_true,decide_false,Bool.not_true,cond_false,cond_true,Bool.and_self]
    rfl
   ·have e4:(x.things.length:Int)≤r.no:=by omega
    simp only [e2,e3,e4,decide_true,decide_false,Bool.not_true,cond_false,cond_true,Bool.and_false]
    rfl
  ·simp only [e2,decide_false,Bool.not_false,cond_true,cond_false,Bool.false_and]
   rfl
theorem s_iThg:EntOk prog i_iThg e_iThg:=ent_ok ea_iThg_inj fun x hx =>
 body_sound (φ:=tb17) (tabS_cons s_iROk (tabS_cons s_iRoomOf tabS_nil)) mixed (kp:=kp_iThg) (n:=0) func124 (c:=bodyOf F_iThg) (by kernel_rfl) (body_iThg x.1 x.2 (0) hx) (name_ok (by kernel_rfl))
theorem body_sThg (m:Ml) (r:Rf) (n:Nat) (h:ok_sThg (m,r)):body prog tb18 kp_sThg n F_sThg (ea_sThg (m,r))=some ([oT (.int .i64 (f_sThg (m,r)).1),oT (.int .i64 (f_sThg (m,r)).2)],[nul,nul]):=by
 have hlm:=lm
 have hl:m.rooms.length≤LM:=h
 have c0:ok_sRoomOf (m,r.h):=hl
 unfold ea_sThg f_sThg thg refOk
 dsimp only
 rw [pre_sThg]
 by_cases a1:0≤r.h.slot
 case neg =>
  simp only [a1,decide_false,cond_false,Bool.false_and]
  rfl
 by_cases a2:1≤r.h.gen
 case neg =>
  simp only [a1,a2,decide_true,decide_false,cond_true,cond_false,Bool.and_false,Bool.false_and]
  rfl
 by_cases a3:0≤r.ep
 case neg =>
  simp only [a1,a2,a3,decide_true,decide_false,cond_true,cond_false,Bool.and_false,Bool.false_and,Bool.and_self]
  rfl
 by_cases a4:0≤r.no
 case neg =>
  simp only [a1,a2,a3,a4,decide_true,decide_false,cond_true,cond_false,Bool.and_false,Bool.false_and,Bool.and_self,Bool.not_false]
  rfl
 simp only [a1,a2,a3,a4,decide_true,cond_true,Bool.and_self,Bool.not_true,cond_false,eL_T,Ml.cs,Hd.cs,rsx0]
 rw [entK_of (dm_sRoomOf c0) (iv_sRoomOf c0)]
 simp only [d_sRoomOf]
 by_cases e:rof m.rooms r.h < 0
 ·simp only [e,decide_true,cond_true]
  rfl
 ·have e1:=rof_lt e
  obtain ⟨x,hre⟩:∃ x,x=m.rooms.getD (rof m.rooms r.h).toNat zRm:=⟨_,rfl⟩
  have hx:=getD_get e1.2
  rw [← hre] at hx ⊢
  simp only [rsx0,e,decide_false,cond_false,e1.1,e1.2,atL_of hx,Rm.cs,eL_T,int_ne]
  by_cases e2:x.ep=r.ep
  ·by_cases e3:r.no < (x.things.length:Int)
   ·have e4:¬ (x.things.length:Int)≤r.no:=by omega
    simp only [e2,e3,e4,decide_true,decide_false,Bool.not_true,cond_false,cond_true,Bool.and_self]
    rfl
   ·have e4:(x.things.length:Int)≤r.no:=by omega
    simp only [e2,e3,e4,decide_true,decide_false,Bool.not_true,cond_false,cond_true,Bool.and_false]
    rfl
  ·simp only [e2,decide_false,Bool.not_false,cond_true,cond_false,Bool.false_and]
   rfl
theorem s_sThg:EntOk prog i_sThg e_sThg:=ent_ok ea_sThg_inj fun x hx =>
 body_sound (φ:=tb18) (tabS_cons s_sROk (tabS_cons s_sRoomOf tabS_nil)) mixed (kp:=kp_sThg) (n:=0) func103 (c:=bodyOf F_sThg) (by kernel_rfl) (body_sThg x.1 x.2 (0) hx) (name_ok (by kernel_rfl))
end Go.Mach.F
namespace Go.Mach.F
open Go Go.Mach Go.Proofs.Tryz
--=set_option maxRecDepth 100000
theorem Pl.cs_inj (x y:Pl) (h:∀ k,x.cs.getD k .hole=y.cs.getD k .hole):x=y:=by
 have h0:=h 0;have h1:=h 1;have h2:=h 2
 rcases x with ⟨x0,x1,x2⟩
 rcases y with ⟨y0,y1,y2⟩
 simp only [Pl.cs,List.getD_cons_zero,List.getD_cons_succ,T.int.injEq,T.bool.injEq,true_and] at h0 h1 h2
 replace h0:=eB_inj h0
 replace h1:=eI_inj h1
 replace h2:=eI_inj h2
 subst h0;subst h1;subst h2
 rfl
theorem Pl.cs_ext {x y:Pl} (h:x.cs=y.cs):x=y:=Pl.cs_inj x y fun k=>by rw [h]
theorem Wd.cs_inj (x y:Wd) (h:∀ k,x.cs.getD k .hole=y.cs.getD k .hole):x=y:=by
 have h0:=h 0;have h1:=h 1;have h2:=h 2;have h3:=h 3;have h4:=h 4;have h5:=h 5;have h6:=h 6;have h7:=h 7;have h8:=h 8;have h9:=h 9;have h10:=h 10;have h11:=h 11
 rcases x with ⟨⟨x0,x1,x2,x3,x4,x5⟩,⟨x6,x7,x8⟩,x9,x10,x11⟩
 rcases y with ⟨⟨y0,y1,y2,y3,y4,y5⟩,⟨y6,y7,y8⟩,y9,y10,y11⟩
 simp only [Wd.cs,List.getD_cons_zero,List.getD_cons_succ,T.int.injEq,T.bool.injEq,true_and] at h0 h1 h2 h3 h4 h5 h6 h7 h8 h9 h10 h11
 replace h6:=eB_inj h6
 replace h7:=eI_inj h7
 replace h8:=eI_inj h8
 replace h9:=eL_inj Nd.cs_inj h9
 replace h10:=eL_inj Ws.cs_inj h10
 replace h11:=eI_inj h11
 subst h0;subst h1;subst h2;subst h3;subst h4;subst h5;subst h6;subst h7;subst h8;subst h9;subst h10;subst h11
 rfl
theorem Wd.cs_ext {x y:Wd} (h:x.cs=y.cs):x=y:=Wd.cs_inj x y fun k=>by rw [h]
end Go.Mach.F
namespace Go.Mach.F
open Go Go.Mach Go.Proofs.Tryz Go.IntKind
--=set_option maxRecDepth 100000
theorem row1 (x:Int) (j k':Nat):(Option.rec (motive:=fun _=>T) T.hole (fun val=>val) ([[T.int i64 x]].getD j [])[k']?:T)=rowsT [[T.int i64 x]] j k':=by
 unfold rowsT
 generalize [[T.int i64 x]].getD j []=q
 rw [List.getD_eq_getElem?_getD]
 cases q[k']? <;> rfl
def i_within:Nat:=127
noncomputable abbrev F_within:Func:=f127
def kp_within:List (Nat × List Nat):=[(0,[0,4,8,44,48,52]),(1,[24])]
noncomputable def e_within:Ent:=inl [] prog (tabS []) kp_within 0 F_within
theorem s_within:EntOk prog i_within e_within:=inl_ok tabS_nil mixed (c:=bodyOf F_within) func127 (by kernel_rfl) (name_ok (by kernel_rfl))
end Go.Mach.F
namespace Go.Mach.F
open Go Go.Mach Go.Proofs.Tryz
--=set_option maxRecDepth 100000
def i_ihas:Nat:=176
noncomputable abbrev F_ihas:Func:=f176
def kp_ihas:List (Nat × List Nat):=[(0,[0,4,8,40,44,48,60,64,68,72,76]),(1,[24])]
noncomputable def e_ihas:Ent:=inl [] prog (tabS [(i_within,e_within)]) kp_ihas 0 F_ihas
theorem s_ihas:EntOk prog i_ihas e_ihas:=inl_ok (tabS_cons s_within tabS_nil) mixed (c:=bodyOf F_ihas) func176 (by kernel_rfl) (name_ok (by kernel_rfl))
def i_l2There:Nat:=161
noncomputable abbrev F_l2There:Func:=f161
def kp_l2There:List (Nat × List Nat):=[(0,[0,4,8,40,44,56,60,64,68,80,84,88,92,96,100]),(1,[24])]
noncomputable def e_l2There:Ent:=inl [] prog (tabS []) kp_l2There 0 F_l2There
theorem s_l2There:EntOk prog i_l2There e_l2There:=inl_ok tabS_nil mixed (c:=bodyOf F_l2There) func161 (by kernel_rfl) (name_ok (by kernel_rfl))
end Go.Mach.F
namespace Go.Mach.F
open Go Go.Mach Go.Proofs.Tryz
--=set_option maxRecDepth 100000
def i_l1In:Nat:=106
noncomputable abbrev F_l1In:Func:=f106
def kp_l1In:List (Nat × List Nat):=[(0,[0,4,8,44,48,52]),(1,[24])]
noncomputable def e_l1In:Ent:=inl [] prog (tabS []) kp_l1In 0 F_l1In
theorem s_l1In:EntOk prog i_l1In e_l1In:=inl_ok tabS_nil mixed (c:=bodyOf F_l1In) func106 (by kernel_rfl) (name_ok (by kernel_rfl))
end Go.Mach.F
namespace Go.Mach.F
open Go Go.Mach Go.Proofs.Tryz Go.IntKind
--=set_option maxRecDepth 100000
def tagR (r:Rm) (k:Int):Rm:={ r with tags:=r.tags ++ [k] }
def tagM (m:Ml) (h:Hd) (k:Int):Ml × Int :=
 bif decide (0≤k)&&decide (k≤255) then (bif decide ((rsv m h).2=0) then (bif decide (6≤((m.rooms.getD (rsv m h).1.toNat zRm).tags.length:Int)) then (m,8)
  else (⟨m.c,m.rooms.set (rsv m h).1.toNat (tagR (m.rooms.getD (rsv m h).1.toNat zRm) k),m.log⟩,0)) else (m,(rsv m h).2)) else (m,1)
def ok_iEagerTag (x:Ml × Hd × Int):Prop:=ok_RmS x.1.rooms∧ok_LI x.1.log
def ea_iEagerTag (x:Ml × Hd × Int):List Arg:=[aR x.1.cs,aR x.2.1.cs,aI x.2.2]
def f_iEagerTag (x:Ml × Hd × Int):Ml × Int:=tagM x.1 x.2.1 x.2.2
noncomputable def e_iEagerTag:Ent:=ent [] ok_iEagerTag ea_iEagerTag (fun (x:Ml × Int)=>([oR x.1.cs,oT (.int .i64 x.2)],[nul,nul,nul])) f_iEagerTag
theorem ea_iEagerTag_inj (x y:Ml × Hd × Int) (h:ea_iEagerTag x=ea_iEagerTag y):x=y:=by
 obtain ⟨m1,h1,k1⟩:=x
 obtain ⟨m2,h2,k2⟩:=y
 simp only [ea_iEagerTag,List.cons.injEq,and_true,true_and] at h
 obtain ⟨e0,e1,e2⟩:=h
 obtain rfl:=Ml.cs_ext (aR_inj e0)
 obtain rfl:=Hd.cs_ext (aR_inj e1)
 obtain rfl:=aI_inj e2
 rfl
theorem dm_iEagerTag {m:Ml} {h:Hd} {k:Int} (h0:ok_iEagerTag (m,h,k)):dom ok_iEagerTag ea_iEagerTag [(wMl m),(wHd h),(0,false,[C.tr false (T.int i64 k)])]=true:=dom_ea (ea:=ea_iEagerTag) (x:=(m,h,k)) h0
theorem iv_iEagerTag {m:Ml} {h:Hd} {k:Int} (h0:ok_iEagerTag (m,h,k)):inv ok_iEagerTag ea_iEagerTag [(wMl m),(wHd h),(0,false,[C.tr false (T.int i64 k)])]=(m,h,k):=inv_ea ea_iEagerTag_inj (x:=(m,h,k)) h0
theorem d_iEagerTag (m:Ml) (h:Hd) (k:Int):f_iEagerTag (m,h,k)=tagM m h k:=rfl
def i_iEagerTag:Nat:=63
noncomputable abbrev F_iEagerTag:Func:=f63
def kp_iEagerTag:List (Nat × List Nat):=[(0,[8,12,13,16,17,24,25,32,33,48,64,104,148,208]),(1,[8,12,13,16,17,24,25,32,33,48,64,104,148,208]),(2,[8,12,13,16,17,24,25,32,33,48,60,64,104,148,208]),(3,[24,25,28,32,33,48,64,104,148,208]),(4,[8,12,13,24,25,32,33,36,40,48,64,104,148,208]),(5,[8,12,13,24,25,32,33,36,40,48,64,92,104,148,208]),(6,[24,25,28,32,33,48,64,104,148,208]),(7,[8,24,25,32,33,36,48,64,104,112,148,208]),(8,[24,25,28,32,33,48,64,104,148,208]),(9,[24,25,32,33,48,64,104,148,208]),(10,[24,25,28,32,33,48,64,104,148,208])]
noncomputable abbrev tb21:Sems:=tabS [(i_iModel,e_iModel),(i_within,e_within),(i_iRsv,e_iRsv)]
theorem pre_iEagerTag (m:Ml) (h:Hd) (k:Int) (n:Nat):body prog tb21 kp_iEagerTag n F_iEagerTag [aR m.cs,aR h.cs,aI k]=(entK ok_iModel ea_iModel (f_iModel) [(wMl m)] fun (r1:Ml)=>let q1:=T.arr 11 r1.2.length (eL 11 Rm.cs r1.2).fn;gl r1.2.length<|gl r1.3.length<|bif decide (0≤k) then bif !decide (k≤255) then gl r1.2.length<|gl r1.3.length<|gl r1.2.length<|gl r1.3.length<|some ([(oR (Ml.cs r1)),(false,[.tr true (T.int i64 1)])],[(false,[]),(false,[]),(false,[])]) else entK ok_iRsv ea_iRsv (f_iRsv) [(wMl m),(wHd h)] fun (r2:Int × Int)=>let q0:=atL Rm.cs r1.2 (0+r2.1.toNat) (10+0);bif r2.2 != 0 then gl r1.2.length<|gl r1.3.length<|gl r1.2.length<|gl r1.3.length<|some ([(oR (Ml.cs r1)),(false,[.tr true (T.int i64 r2.2)])],[(false,[]),(false,[]),(false,[])]) else gd (decide (0≤r2.1)&&(r2.1.toNat.blt m.2.length&&true))<|gd ((atL Rm.cs m.2 r2.1.toNat 10).isArr&&(atL Rm.cs m.2 r2.1.toNat 10).wd.beq 1)<|bif decide (6≤(↑(atL Rm.cs m.2 r2.1.toNat 10).ln:Int)) then gl r1.2.length<|gl r1.3.length<|gl r1.2.length<|gl r1.3.length<|some ([(oR (Ml.cs r1)),(false,[.tr true (T.int i64 8)])],[(false,[]),(false,[]),(false,[])]) else gd (decide (0≤r2.1)&&(r2.1.toNat.blt r1.2.length&&true))<|gd ((0+r2.1.toNat).blt r1.2.length&&true&&(q0.isArr&&q0.wd.beq 1))<|gd ((0+r2.1.toNat).blt r1.2.length&&true&&true&&(q1.get [0+r2.1.toNat,10+0]).isArr)<|gd (q0.ln.ble (q1.get [0+r2.1.toNat,10+0]).ln&&Nat.beq 1 (q1.get [0+r2.1.toNat,10+0]).wd)<|gd (((q0.ln+1) * 8).ble 70368744177664&&(q0.ln+1).ble 70368744177664)<|gd (decide (0≤r2.1)&&(r2.1.toNat.blt r1.2.length&&true))<|gd ((q0.ln+1).ble (q0.ln+1)&&true)<|gd ((0+r2.1.toNat).blt r1.2.length&&true&&true)<|gl r1.2.length<|gl r1.3.length<|gl r1.2.length<|gl r1.3.length<|some ([(true,[.tr true (T.int i64 r1.c.1),.tr true (T.int i64 r1.c.2),.tr true (T.int i64 r1.c.3),.tr true (T.int i64 r1.c.4),.tr true (T.int i64 r1.c.5),.tr true (T.int i64 r1.c.6),.tr true (.arr (11) (r1.2.length) (setF (0+r2.1.toNat) 10 (T.arr 1 ((atL Rm.cs r1.2 (0+r2.1.toNat) 10).ln+1) (appF (atL Rm.cs r1.2 (0+r2.1.toNat) 10).ln (q1.get [0+r2.1.toNat,10]).fn (plainF (cutT 0 1 (rowsT [[T.int i64 k]]))))) (setF (0+r2.1.toNat) 10 T.hole (eL 11 Rm.cs r1.2).fn))),.tr true (.arr (1) (r1.3.length) ((eL 1 rowI r1.3).fn))]),(false,[.tr true (T.int i64 0)])],[(false,[]),(false,[]),(false,[])]) else gl r1.2.length<|gl r1.3.length<|gl r1.2.length<|gl r1.3.length<|some ([(oR (Ml.cs r1)),(false,[.tr true (T.int i64 1)])],[(false,[]),(false,[]),(false,[])])):=by kernel_rfl
def ok_sEagerTag (x:Ml × Hd × Int):Prop:=ok_RmS x.1.rooms∧ok_LI x.1.log
def ea_sEagerTag (x:Ml × Hd × Int):List Arg:=[aR x.1.cs,aR x.2.1.cs,aI x.2.2]
def f_sEagerTag (x:Ml × Hd × Int):Ml × Int:=tagM x.1 x.2.1 x.2.2
noncomputable def e_sEagerTag:Ent:=ent [] ok_sEagerTag ea_sEagerTag (fun (x:Ml × Int)=>([oR x.1.cs,oT (.int .i64 x.2)],[nul,nul,nul])) f_sEagerTag
theorem ea_sEagerTag_inj (x y:Ml × Hd × Int) (h:ea_sEagerTag x=ea_sEagerTag y):x=y:=by
 obtain ⟨m1,h1,k1⟩:=x
 obtain ⟨m2,h2,k2⟩:=y
 simp only [ea_sEagerTag,List.cons.injEq,and_true,true_and] at h
 obtain ⟨e0,e1,e2⟩:=h
 obtain rfl:=Ml.cs_ext (aR_inj e0)
 obtain rfl:=Hd.cs_ext (aR_inj e1)
 obtain rfl:=aI_inj e2
 rfl
theorem dm_sEagerTag {m:Ml} {h:Hd} {k:Int} (h0:ok_sEagerTag (m,h,k)):dom ok_sEagerTag ea_sEagerTag [(wMl m),(wHd h),(0,false,[C.tr false (T.int i64 k)])]=true:=dom_ea (ea:=ea_sEagerTag) (x:=(m,h,k)) h0
theorem iv_sEagerTag {m:Ml} {h:Hd} {k:Int} (h0:ok_sEagerTag (m,h,k)):inv ok_sEagerTag ea_sEagerTag [(wMl m),(wHd h),(0,false,[C.tr false (T.int i64 k)])]=(m,h,k):=inv_ea ea_sEagerTag_inj (x:=(m,h,k)) h0
theorem d_sEagerTag (m:Ml) (h:Hd) (k:Int):f_sEagerTag (m,h,k)=tagM m h k:=rfl
def i_sEagerTag:Nat:=48
noncomputable abbrev F_sEagerTag:Func:=f48
def kp_sEagerTag:List (Nat × List Nat):=[(0,[8,12,13,16,17,24,25,32,33,48,64,104,108,112,116,120,124,128,132,204]),(1,[8,12,13,16,17,24,25,32,33,48,64,104,108,112,116,120,124,128,132,204]),(2,[8,12,13,16,17,24,25,32,33,48,60,64,104,108,112,116,120,124,128,132,204]),(3,[24,25,28,32,33,48,64,204]),(4,[8,12,13,24,25,32,33,36,40,48,64,104,108,112,116,120,124,128,132,204]),(5,[8,24,25,32,33,36,40,48,64,136,204]),(6,[8,24,25,32,33,36,40,48,64,204]),(7,[8,24,25,32,33,36,40,48,64,144,204]),(8,[24,25,32,33,40,48,64,204]),(9,[24,25,28,32,33,48,64,204])]
noncomputable abbrev tb22:Sems:=tabS [(i_sModel,e_sModel),(i_l1In,e_l1In),(i_sRsv,e_sRsv)]
theorem pre_sEagerTag (m:Ml) (h:Hd) (k:Int) (n:Nat):body prog tb22 kp_sEagerTag n F_sEagerTag [aR m.cs,aR h.cs,aI k]=(entK ok_sModel ea_sModel (f_sModel) [(wMl m)] fun (r1:Ml)=>let q2:=T.arr 11 r1.2.length (eL 11 Rm.cs r1.2).fn;gl r1.2.length<|gl r1.3.length<|bif decide (0≤k) then bif !decide (k≤255) then gl r1.2.length<|gl r1.3.length<|gl r1.2.length<|gl r1.3.length<|some ([(oR (Ml.cs r1)),(false,[.tr true (T.int i64 1)])],[(false,[]),(false,[]),(false,[])]) else entK ok_sRsv ea_sRsv (f_sRsv) [(wMl m),(wHd h)] fun (r2:Int × Int)=>let q0:=atL Rm.cs r1.2 (0+r2.1.toNat) 10;let q1:=atL Rm.cs r1.2 (0+r2.1.toNat) (10+0);let q3:=appF q0.ln (q2.get [0+r2.1.toNat,10]).fn (plainF (cutT 0 1 (rowsT [[T.int i64 k]])));let q4:=setF (0+r2.1.toNat) 10 (T.arr 1 (q0.ln+1) q3) (setF (0+r2.1.toNat) 10 T.hole (eL 11 Rm.cs r1.2).fn);bif r2.2 == 0 then gd (decide (0≤r2.1)&&(r2.1.toNat.blt m.2.length&&true))<|gd ((atL Rm.cs m.2 r2.1.toNat 10).isArr&&(atL Rm.cs m.2 r2.1.toNat 10).wd.beq 1)<|bif decide (6≤(↑(atL Rm.cs m.2 r2.1.toNat 10).ln:Int)) then gl r1.2.length<|gl r1.3.length<|gl r1.2.length<|gl r1.3.length<|some ([(oR (Ml.cs r1)),(false,[.tr true (T.int i64 8)])],[(false,[]),(false,[]),(false,[])]) else bif r2.2 == 0 then gd (decide (0≤r2.1)&&(r2.1.toNat.blt r1.2.length&&true))<|gd ((0+r2.1.toNat).blt r1.2.length&&true&&(q1.isArr&&q1.wd.beq 1))<|gd ((0+r2.1.toNat).blt r1.2.length&&true&&true&&(q2.get [0+r2.1.toNat,10+0]).isArr)<|gd (q1.ln.ble (q2.get [0+r2.1.toNat,10+0]).ln&&Nat.beq 1 (q2.get [0+r2.1.toNat,10+0]).wd)<|gd (((q1.ln+1) * 8).ble 70368744177664&&(q1.ln+1).ble 70368744177664)<|gd (decide (0≤r2.1)&&(r2.1.toNat.blt r1.2.length&&true))<|gd ((q1.ln+1).ble (q1.ln+1)&&true)<|gd ((0+r2.1.toNat).blt r1.2.length&&true&&true)<|gl r1.2.length<|gl r1.3.length<|gl r1.2.length<|gl r1.3.length<|some ([(true,[.tr true (T.int i64 r1.c.1),.tr true (T.int i64 r1.c.2),.tr true (T.int i64 r1.c.3),.tr true (T.int i64 r1.c.4),.tr true (T.int i64 r1.c.5),.tr true (T.int i64 r1.c.6),.tr true (.arr (11) (r1.2.length) q4),.tr true (.arr (1) (r1.3.length) ((eL 1 rowI r1.3).fn))]),(false,[.tr true (T.int i64 r2.2)])],[(false,[]),(false,[]),(false,[])]) else gl r1.2.length<|gl r1.3.length<|gl r1.2.length<|gl r1.3.length<|some ([(oR (Ml.cs r1)),(false,[.tr true (T.int i64 r2.2)])],[(false,[]),(false,[]),(false,[])]) else bif r2.2 == 0 then gd (decide (0≤r2.1)&&(r2.1.toNat.blt r1.2.length&&true))<|gd ((0+r2.1.toNat).blt r1.2.length&&true&&(q1.isArr&&q1.wd.beq 1))<|gd ((0+r2.1.toNat).blt r1.2.length&&true&&true&&(q2.get [0+r2.1.toNat,10+0]).isArr)<|gd (q1.ln.ble (q2.get [0+r2.1.toNat,10+0]).ln&&Nat.beq 1 (q2.get [0+r2.1.toNat,10+0]).wd)<|gd (((q1.ln+1) * 8).ble 70368744177664&&(q1.ln+1).ble 70368744177664)<|gd (decide (0≤r2.1)&&(r2.1.toNat.blt r1.2.length&&true))<|gd ((q1.ln+1).ble (q1.ln+1)&&true)<|gd ((0+r2.1.toNat).blt r1.2.length&&true&&true)<|gl r1.2.length<|gl r1.3.length<|gl r1.2.length<|gl r1.3.length<|some ([(true,[.tr true (T.int i64 r1.c.1),.tr true (T.int i64 r1.c.2),.tr true (T.int i64 r1.c.3),.tr true (T.int i64 r1.c.4),.tr true (T.int i64 r1.c.5),.tr true (T.int i64 r1.c.6),.tr true (.arr (11) (r1.2.length) q4),.tr true (.arr (1) (r1.3.length) ((eL 1 rowI r1.3).fn))]),(false,[.tr true (T.int i64 r2.2)])],[(false,[]),(false,[]),(false,[])]) else gl r1.2.length<|gl r1.3.length<|gl r1.2.length<|gl r1.3.length<|some ([(oR (Ml.cs r1)),(false,[.tr true (T.int i64 r2.2)])],[(false,[]),(false,[]),(false,[])]) else gl r1.2.length<|gl r1.3.length<|gl r1.2.length<|gl r1.3.length<|some ([(oR (Ml.cs r1)),(false,[.tr true (T.int i64 1)])],[(false,[]),(false,[]),(false,[])])):=by kernel_rfl
end Go.Mach.F
namespace Go.Mach.F
open Go Go.Mach Go.Proofs.Tryz
theorem setF_setF (j k:Nat) (u v:T) (f:Nat→Nat→T):setF j k v (setF j k u f)=setF j k v f:=by
 funext j' k'
 simp only [setF_d]
 by_cases h:j'=j∧k'=k
 ·rw [if_pos h,if_pos h]
 ·rw [if_neg h,if_neg h,if_neg h]
theorem setF_list {α:Type} {row:α→List T} {l:List α} {j k:Nat} {v:T} {x y:α} (hx:l[j]?=some x) (hy:row y=(row x).set k v) (hk:k < (row x).length):setF j k v (atL row l)=atL row (l.set j y):=by
 refine set_atL (List.getElem?_eq_some_iff.1 hx).1 fun j' k'=>?_
 rw [setF_d,hy]
 by_cases h:j'=j
 ·subst h
  by_cases h2:k'=k
  ·subst h2
   rw [if_pos ⟨rfl,rfl⟩,if_pos rfl,List.getD_eq_getElem?_getD,List.getElem?_set_self hk]
   rfl
  ·rw [if_neg fun e=>h2 e.2,if_pos rfl,atL_of hx,List.getD_eq_getElem?_getD,List.getD_eq_getElem?_getD,List.getElem?_set_ne (Ne.symm h2)]
 ·rw [if_neg fun e=>h e.1,if_neg h]
theorem appF_app {α:Type} (row:α→List T) (l l':List α):appF l.length (atL row l) (atL row l')=atL row (l ++ l'):=by
 funext j k
 unfold appF
 rw [blt_d,Bool.cond_decide]
 by_cases h:j < l.length
 ·rw [if_pos h]
  unfold atL
  rw [List.getElem?_append_left h]
 ·rw [if_neg h]
  unfold atL
  rw [List.getElem?_append_right (by omega)]
theorem rows1 {α:Type} (row:α→List T) (x:α):rowsT [row x]=atL row [x]:=by
 funext j k
 cases j with
 | zero=>rfl
 | succ j=>simp [rowsT,atL]
theorem plain1 (x:Int):plainF (cutT 0 1 (rowsT [[T.int .i64 x]]))=atL rowI [x]:=by
 rw [show [T.int .i64 x]=rowI x from rfl,rows1,show cutT 0 1 (atL rowI [x])=atL rowI [x] from cut_all rowI [x],plain_I]
theorem body_iEagerTag (m:Ml) (h:Hd) (k:Int) (n:Nat) (h0:ok_iEagerTag (m,h,k)):body prog tb21 kp_iEagerTag n F_iEagerTag (ea_iEagerTag (m,h,k))=some ([oR (f_iEagerTag (m,h,k)).1.cs,oT (.int .i64 (f_iEagerTag (m,h,k)).2)],[nul,nul,nul]):=by
 have hlm:=lm
 obtain ⟨h1,h2⟩:ok_RmS m.rooms∧ok_LI m.log:=h0
 have hl:m.rooms.length≤LM:=h1.1
 have c0:ok_iModel m:=⟨h1,h2⟩
 have c1:ok_iRsv (m,h):=hl
 unfold ea_iEagerTag f_iEagerTag tagM
 dsimp only
 rw [pre_iEagerTag]
 try simp only [eL_T,Ml.cs,Hd.cs]
 rw [entK_of (dm_iModel c0) (iv_iModel c0)]
 simp only [d_iModel,rsx0,ble_d,Nat.le_refl]
 by_cases a1:0≤k
 case neg =>
  simp only [a1,decide_false,cond_false,Bool.false_and]
  rfl
 by_cases a2:k≤255
 case neg =>
  simp only [a1,a2,decide_true,decide_false,cond_true,cond_false,Bool.and_false,Bool.not_false]
  rfl
 simp only [a1,a2,decide_true,cond_true,Bool.and_self,Bool.not_true,cond_false]
 rw [entK_of (dm_iRsv c1) (iv_iRsv c1)]
 simp only [d_iRsv,int_ne,int_eq]
 by_cases e:(rsv m h).2=0
 case neg =>
  simp only [e,decide_false,Bool.not_false,cond_true,cond_false]
  rfl
 have hk:=rsv_ok e
 have hx:=getD_get hk.2
 obtain ⟨x,hxe⟩:∃ x,x=m.rooms.getD (rsv m h).1.toNat zRm:=⟨_,rfl⟩
 rw [← hxe] at hx ⊢
 have hy:=h1.2 _ (List.mem_of_getElem? hx)
 have hg:x.tags.length≤LM:=hy.2.2
 have e0:=hk.1
 have e1:=hk.2
 have s1:(x.tags.length+1) * 8≤70368744177664:=by omega
 have s2:x.tags.length+1≤70368744177664:=by omega
 simp only [rsx0,e,e0,e1,Nat.add_zero,Bool.not_true,cond_false,atL_of hx,Rm.cs,T.get,ble_d,Nat.le_refl,s1,s2]
 by_cases e2:6≤(x.tags.length:Int)
 ·simp only [e2,decide_true,cond_true,int_eq]
  rfl
 ·simp only [e2,decide_false,cond_false,plain1,appF_app,setF_setF]
  rw [setF_list (y:=tagR x k) hx (by simp only [Rm.cs,tagR,eL_T,List.length_append];rfl) (by decide:10 < 11)]
  simp only [oR,Ml.cs,eL_T,List.length_set]
  rfl
theorem s_iEagerTag:EntOk prog i_iEagerTag e_iEagerTag:=ent_ok ea_iEagerTag_inj fun x hx =>
 body_sound (φ:=tb21) (tabS_cons s_iModel (tabS_cons s_within (tabS_cons s_iRsv tabS_nil))) mixed (kp:=kp_iEagerTag) (n:=0) func63 (c:=bodyOf F_iEagerTag) (by kernel_rfl) (body_iEagerTag x.1 x.2.1 x.2.2 (0) hx) (name_ok (by kernel_rfl))
theorem body_sEagerTag (m:Ml) (h:Hd) (k:Int) (n:Nat) (h0:ok_sEagerTag (m,h,k)):body prog tb22 kp_sEagerTag n F_sEagerTag (ea_sEagerTag (m,h,k))=some ([oR (f_sEagerTag (m,h,k)).1.cs,oT (.int .i64 (f_sEagerTag (m,h,k)).2)],[nul,nul,nul]):=by
 have hlm:=lm
 obtain ⟨h1,h2⟩:ok_RmS m.rooms∧ok_LI m.log:=h0
 have hl:m.rooms.length≤LM:=h1.1
 have c0:ok_sModel m:=⟨h1,h2⟩
 have c1:ok_sRsv (m,h):=hl
 unfold ea_sEagerTag f_sEagerTag tagM
 dsimp only
 rw [pre_sEagerTag]
 try simp only [eL_T,Ml.cs,Hd.cs]
 rw [entK_of (dm_sModel c0) (iv_sModel c0)]
 simp only [d_sModel,rsx0,ble_d,Nat.le_refl]
 by_cases a1:0≤k
 case neg =>
  simp only [a1,decide_false,cond_false,Bool.false_and]
  rfl
 by_cases a2:k≤255
 case neg =>
  simp only [a1,a2,decide_true,decide_false,cond_true,cond_false,Bool.and_false,Bool.not_false]
  rfl
 simp only [a1,a2,decide_true,cond_true,Bool.and_self,Bool.not_true,cond_false]
 rw [entK_of (dm_sRsv c1) (iv_sRsv c1)]
 simp only [d_sRsv,int_ne,int_eq]
 by_cases e:(rsv m h).2=0
 case neg =>
  simp only [e,decide_false,Bool.not_false,cond_true,cond_false]
  rfl
 have hk:=rsv_ok e
 have hx:=getD_get hk.2
 obtain ⟨x,hxe⟩:∃ x,x=m.rooms.getD (rsv m h).1.toNat zRm:=⟨_,rfl⟩
 rw [← hxe] at hx ⊢
 have hy:=h1.2 _ (List.mem_of_getElem? hx)
 have hg:x.tags.length≤LM:=hy.2.2
 have e0:=hk.1
 have e1:=hk.2
 have s1:(x.tags.length+1) * 8≤70368744177664:=by omega
 have s2:x.tags.length+1≤70368744177664:=by omega
 simp only [rsx0,e,e0,e1,Nat.add_zero,Bool.not_true,cond_false,atL_of hx,Rm.cs,T.get,ble_d,Nat.le_refl,s1,s2]
 by_cases e2:6≤(x.tags.length:Int)
 ·simp only [e2,decide_true,cond_true,int_eq]
  rfl
 ·simp only [e2,decide_false,cond_false,plain1,appF_app,setF_setF]
  rw [setF_list (y:=tagR x k) hx (by simp only [Rm.cs,tagR,eL_T,List.length_append];rfl) (by decide:10 < 11)]
  simp only [oR,Ml.cs,eL_T,List.length_set]
  rfl
theorem s_sEagerTag:EntOk prog i_sEagerTag e_sEagerTag:=ent_ok ea_sEagerTag_inj fun x hx =>
 body_sound (φ:=tb22) (tabS_cons s_sModel (tabS_cons s_l1In (tabS_cons s_sRsv tabS_nil))) mixed (kp:=kp_sEagerTag) (n:=0) func48 (c:=bodyOf F_sEagerTag) (by kernel_rfl) (body_sEagerTag x.1 x.2.1 x.2.2 (0) hx) (name_ok (by kernel_rfl))
end Go.Mach.F
namespace Go.Mach.F
open Go Go.Mach Go.Proofs.Tryz Go.IntKind
--=set_option maxRecDepth 100000
def tkn (l:List Rm):Int:=l.foldl (fun n r=>i64.wrap (n+r.chunks)) 0
def inR (n lo hi:Int):Bool:=decide (lo≤n)&&decide (n≤hi)
def isAl (y:Int):Bool:=decide (y=1) || (decide (y=2) || decide (y=4))
def aup (x y:Int):Int:=bif inR x 0 1000000000&&isAl y then i64.wrap (i64.wrap (Int.tdiv (i64.wrap (i64.wrap (x+y) - 1)) y) * y) else 0
def cdv (x y:Int):Int:=bif inR x 0 1000000000&&inR y 1 1000000000 then i64.wrap (Int.tdiv (i64.wrap (i64.wrap (x+y) - 1)) y) else 0
def zer (x:Int):List UInt8:=bif inR x 0 4096 then List.replicate x.toNat 0 else []
def i_iisAl:Nat:=173
noncomputable abbrev F_iisAl:Func:=f173
def kp_iisAl:List (Nat × List Nat):=[(0,[0,24,28,40,44]),(1,[8])]
noncomputable def e_iisAl:Ent:=inl [] prog (tabS []) kp_iisAl 0 F_iisAl
theorem s_iisAl:EntOk prog i_iisAl e_iisAl:=inl_ok tabS_nil mixed (c:=bodyOf F_iisAl) func173 (by kernel_rfl) (name_ok (by kernel_rfl))
def i_sisAl:Nat:=155
noncomputable abbrev F_sisAl:Func:=f155
def kp_sisAl:List (Nat × List Nat):=[(0,[0,24,28,40,44]),(1,[8])]
noncomputable def e_sisAl:Ent:=inl [] prog (tabS []) kp_sisAl 0 F_sisAl
theorem s_sisAl:EntOk prog i_sisAl e_sisAl:=inl_ok tabS_nil mixed (c:=bodyOf F_sisAl) func155 (by kernel_rfl) (name_ok (by kernel_rfl))
def ok_iTakenBy (x:Ml):Prop:=x.rooms.length≤LM
def ea_iTakenBy (x:Ml):List Arg:=[aR x.cs]
def f_iTakenBy (x:Ml):Int:=tkn x.rooms
noncomputable def e_iTakenBy:Ent:=ent [] ok_iTakenBy ea_iTakenBy (erI 1) f_iTakenBy
theorem ea_iTakenBy_inj (x y:Ml) (h:ea_iTakenBy x=ea_iTakenBy y):x=y:=by
 simp only [ea_iTakenBy,List.cons.injEq,and_true,true_and] at h
 exact Ml.cs_ext (aR_inj h)
theorem dm_iTakenBy {m:Ml} (h:ok_iTakenBy m):dom ok_iTakenBy ea_iTakenBy [(wMl m)]=true:=dom_ea (ea:=ea_iTakenBy) (x:=m) h
theorem iv_iTakenBy {m:Ml} (h:ok_iTakenBy m):inv ok_iTakenBy ea_iTakenBy [(wMl m)]=m:=inv_ea ea_iTakenBy_inj (x:=m) h
theorem d_iTakenBy (m:Ml):f_iTakenBy m=tkn m.rooms:=rfl
def i_iTakenBy:Nat:=168
noncomputable abbrev F_iTakenBy:Func:=f168
def kp_iTakenBy:List (Nat × List Nat):=[(0,[4,5]),(1,[4,5,12]),(2,[4,5,12,24,28,32,36]),(3,[4,5,12,24,28,32,36,40]),(4,[4,5,12,20,21,24,28,32,36,44,48]),(5,[4,5,12,24,28,32,36]),(6,[4,5,12,24,28,32,36]),(7,[8])]
def ts_iTakenBy:List Nat:=[0]
def st_iTakenBy_1 (m:Ml) (x12:Int) (x36:Int):St:=[(4,⟨z0,[(false,[(C.pt (Pt.ptr 5 0 [] 8 0 0))])]⟩),(5,⟨z0,[(true,[.tr true (T.int i64 m.c.1),.tr true (T.int i64 m.c.2),.tr true (T.int i64 m.c.3),.tr true (T.int i64 m.c.4),.tr true (T.int i64 m.c.5),.tr true (T.int i64 m.c.6),.tr false (eL 11 Rm.cs m.2),.tr false (eL 1 rowI m.3)])]⟩),(12,⟨z0,[(false,[.tr true (T.int i64 x12)])]⟩),(24,⟨z0,[(false,[(C.pt (Pt.ptr 5 0 [] 8 0 6))])]⟩),(28,⟨z0,[(false,[.tr false (eL 11 Rm.cs m.2)])]⟩),(32,⟨z0,[(false,[.tr true (T.int i64 (↑m.2.length:Int))])]⟩),(36,⟨z0,[(false,[.tr true (T.int i64 x36)])]⟩)]
def ex_iTakenBy_1_1 (m:Ml) (x12:Int) (x36:Int):St:=[(4,⟨z0,[(false,[(C.pt (Pt.ptr 5 0 [] 8 0 0))])]⟩),(5,⟨z0,[(true,[.tr true (T.int i64 m.c.1),.tr true (T.int i64 m.c.2),.tr true (T.int i64 m.c.3),.tr true (T.int i64 m.c.4),.tr true (T.int i64 m.c.5),.tr true (T.int i64 m.c.6),.tr false (eL 11 Rm.cs m.2),.tr false (eL 1 rowI m.3)])]⟩),(12,⟨z0,[(false,[.tr true (T.int i64 x12)])]⟩),(24,⟨z0,[(false,[(C.pt (Pt.ptr 5 0 [] 8 0 6))])]⟩),(28,⟨z0,[(false,[.tr false (eL 11 Rm.cs m.2)])]⟩),(32,⟨z0,[(false,[.tr true (T.int i64 (↑m.2.length:Int))])]⟩),(36,⟨z0,[(false,[.tr true (T.int i64 x36)])]⟩),(40,⟨z0,[]⟩)]
theorem round_iTakenBy_1 (m:Ml) (x12:Int) (x36:Int) (n:Nat) (K:Ex→St→Res):roundAt prog (tabS []) kp_iTakenBy F_iTakenBy [1,1,0,1,0] n (st_iTakenBy_1 m x12 x36) K=(bif decide (x36 < (↑m.2.length:Int)) then gd (decide (0≤x36)&&(x36.toNat.blt m.2.length&&true))<|gd (T.isI i64 (atL Rm.cs m.2 x36.toNat 0)&&T.isI i64 (atL Rm.cs m.2 x36.toNat 1)&&T.isI i64 (atL Rm.cs m.2 x36.toNat 2)&&T.isI i64 (atL Rm.cs m.2 x36.toNat 3)&&((atL Rm.cs m.2 x36.toNat 4).isArr&&(atL Rm.cs m.2 x36.toNat 4).wd.beq 2)&&T.isI i64 (atL Rm.cs m.2 x36.toNat 5)&&T.isI i64 (atL Rm.cs m.2 x36.toNat 6)&&(atL Rm.cs m.2 x36.toNat 7).isB&&T.isI i64 (atL Rm.cs m.2 x36.toNat 8)&&((atL Rm.cs m.2 x36.toNat 9).isArr&&(atL Rm.cs m.2 x36.toNat 9).wd.beq 1)&&((atL Rm.cs m.2 x36.toNat 10).isArr&&(atL Rm.cs m.2 x36.toNat 10).wd.beq 1))<|K .normal (st_iTakenBy_1 m (i64.wrap (x12+(atL Rm.cs m.2 x36.toNat 6).toI)) (i64.wrap (x36+1))) else K (.exit 0) (ex_iTakenBy_1_1 m x12 x36)):=by kernel_rfl
theorem post_iTakenBy_1_1 (m:Ml) (x12:Int) (x36:Int) (n:Nat):contAt prog (tabS []) kp_iTakenBy F_iTakenBy ts_iTakenBy [1,1,0,1,0] [] n (.exit 0) (ex_iTakenBy_1_1 m x12 x36)=(some ([(false,[.tr true (T.int i64 x12)])],[(false,[])])):=by kernel_rfl
theorem pre_iTakenBy (m:Ml) (n:Nat):body prog (tabS []) kp_iTakenBy n F_iTakenBy [aR m.cs]=(loopAt prog (tabS []) kp_iTakenBy F_iTakenBy [1,1,0,1,0] n n (st_iTakenBy_1 m (0) (0)) (contAt prog (tabS []) kp_iTakenBy F_iTakenBy ts_iTakenBy [1,1,0,1,0] [] n)):=by kernel_rfl
def ok_iAlignUp (x:Int × Int):Prop:=True
def ea_iAlignUp (x:Int × Int):List Arg:=[aI x.1,aI x.2]
def f_iAlignUp (x:Int × Int):Int:=aup x.1 x.2
noncomputable def e_iAlignUp:Ent:=ent [] ok_iAlignUp ea_iAlignUp (erI 2) f_iAlignUp
theorem ea_iAlignUp_inj (x y:Int × Int) (h:ea_iAlignUp x=ea_iAlignUp y):x=y:=by
 obtain ⟨x1,y1⟩:=x
 obtain ⟨x2,y2⟩:=y
 simp only [ea_iAlignUp,List.cons.injEq,and_true,true_and] at h
 obtain ⟨e0,e1⟩:=h
 obtain rfl:=aI_inj e0
 obtain rfl:=aI_inj e1
 rfl
theorem dm_iAlignUp {x:Int} {y:Int} (h:ok_iAlignUp (x,y)):dom ok_iAlignUp ea_iAlignUp [(0,false,[C.tr false (T.int i64 x)]),(0,false,[C.tr false (T.int i64 y)])]=true:=dom_ea (ea:=ea_iAlignUp) (x:=(x,y)) h
theorem iv_iAlignUp {x:Int} {y:Int} (h:ok_iAlignUp (x,y)):inv ok_iAlignUp ea_iAlignUp [(0,false,[C.tr false (T.int i64 x)]),(0,false,[C.tr false (T.int i64 y)])]=(x,y):=inv_ea ea_iAlignUp_inj (x:=(x,y)) h
theorem d_iAlignUp (x:Int) (y:Int):f_iAlignUp (x,y)=aup x y:=rfl
def i_iAlignUp:Nat:=122
noncomputable abbrev F_iAlignUp:Func:=f122
def kp_iAlignUp:List (Nat × List Nat):=[(0,[0,4,36,40,44]),(1,[0,4,48]),(2,[16]),(3,[16])]
noncomputable abbrev tb23:Sems:=tabS [(i_within,e_within),(i_iisAl,e_iisAl)]
theorem pre_iAlignUp (x:Int) (y:Int) (n:Nat):body prog tb23 kp_iAlignUp n F_iAlignUp [aI x,aI y]=(bif decide (0≤x) then bif !decide (x≤1000000000) then some ([(false,[.tr true (T.int i64 0)])],[(false,[]),(false,[])]) else bif y == 1 then gd (!y == 0)<|some ([(false,[.tr true (T.int i64 (i64.wrap (i64.wrap ((i64.wrap (i64.wrap (x+y) - 1)).tdiv y) * y)))])],[(false,[]),(false,[])]) else bif y == 2 then gd (!y == 0)<|some ([(false,[.tr true (T.int i64 (i64.wrap (i64.wrap ((i64.wrap (i64.wrap (x+y) - 1)).tdiv y) * y)))])],[(false,[]),(false,[])]) else bif !y == 4 then some ([(false,[.tr true (T.int i64 0)])],[(false,[]),(false,[])]) else gd (!y == 0)<|some ([(false,[.tr true (T.int i64 (i64.wrap (i64.wrap ((i64.wrap (i64.wrap (x+y) - 1)).tdiv y) * y)))])],[(false,[]),(false,[])]) else some ([(false,[.tr true (T.int i64 0)])],[(false,[]),(false,[])])):=by kernel_rfl
def ok_iCeilDiv (x:Int × Int):Prop:=True
def ea_iCeilDiv (x:Int × Int):List Arg:=[aI x.1,aI x.2]
def f_iCeilDiv (x:Int × Int):Int:=cdv x.1 x.2
noncomputable def e_iCeilDiv:Ent:=ent [] ok_iCeilDiv ea_iCeilDiv (erI 2) f_iCeilDiv
theorem ea_iCeilDiv_inj (x y:Int × Int) (h:ea_iCeilDiv x=ea_iCeilDiv y):x=y:=by
 obtain ⟨x1,y1⟩:=x
 obtain ⟨x2,y2⟩:=y
 simp only [ea_iCeilDiv,List.cons.injEq,and_true,true_and] at h
 obtain ⟨e0,e1⟩:=h
 obtain rfl:=aI_inj e0
 obtain rfl:=aI_inj e1
 rfl
theorem dm_iCeilDiv {x:Int} {y:Int} (h:ok_iCeilDiv (x,y)):dom ok_iCeilDiv ea_iCeilDiv [(0,false,[C.tr false (T.int i64 x)]),(0,false,[C.tr false (T.int i64 y)])]=true:=dom_ea (ea:=ea_iCeilDiv) (x:=(x,y)) h
theorem iv_iCeilDiv {x:Int} {y:Int} (h:ok_iCeilDiv (x,y)):inv ok_iCeilDiv ea_iCeilDiv [(0,false,[C.tr false (T.int i64 x)]),(0,false,[C.tr false (T.int i64 y)])]=(x,y):=inv_ea ea_iCeilDiv_inj (x:=(x,y)) h
theorem d_iCeilDiv (x:Int) (y:Int):f_iCeilDiv (x,y)=cdv x y:=rfl
def i_iCeilDiv:Nat:=174
noncomputable abbrev F_iCeilDiv:Func:=f174
def kp_iCeilDiv:List (Nat × List Nat):=[(0,[0,4,36,40,44]),(1,[0,4,48]),(2,[16]),(3,[16])]
theorem pre_iCeilDiv (x:Int) (y:Int) (n:Nat):body prog (tabS [(i_within,e_within)]) kp_iCeilDiv n F_iCeilDiv [aI x,aI y]=(bif decide (0≤x) then bif !decide (x≤1000000000) then some ([(false,[.tr true (T.int i64 0)])],[(false,[]),(false,[])]) else bif decide (1≤y) then bif !decide (y≤1000000000) then some ([(false,[.tr true (T.int i64 0)])],[(false,[]),(false,[])]) else gd (!y == 0)<|some ([(false,[.tr true (T.int i64 (i64.wrap ((i64.wrap (i64.wrap (x+y) - 1)).tdiv y)))])],[(false,[]),(false,[])]) else some ([(false,[.tr true (T.int i64 0)])],[(false,[]),(false,[])]) else some ([(false,[.tr true (T.int i64 0)])],[(false,[]),(false,[])])):=by kernel_rfl
def ok_sTakenBy (x:Ml):Prop:=x.rooms.length≤LM
def ea_sTakenBy (x:Ml):List Arg:=[aR x.cs]
def f_sTakenBy (x:Ml):Int:=tkn x.rooms
noncomputable def e_sTakenBy:Ent:=ent [] ok_sTakenBy ea_sTakenBy (erI 1) f_sTakenBy
theorem ea_sTakenBy_inj (x y:Ml) (h:ea_sTakenBy x=ea_sTakenBy y):x=y:=by
 simp only [ea_sTakenBy,List.cons.injEq,and_true,true_and] at h
 exact Ml.cs_ext (aR_inj h)
theorem dm_sTakenBy {m:Ml} (h:ok_sTakenBy m):dom ok_sTakenBy ea_sTakenBy [(wMl m)]=true:=dom_ea (ea:=ea_sTakenBy) (x:=m) h
theorem iv_sTakenBy {m:Ml} (h:ok_sTakenBy m):inv ok_sTakenBy ea_sTakenBy [(wMl m)]=m:=inv_ea ea_sTakenBy_inj (x:=m) h
theorem d_sTakenBy (m:Ml):f_sTakenBy m=tkn m.rooms:=rfl
def i_sTakenBy:Nat:=99
noncomputable abbrev F_sTakenBy:Func:=f99
def kp_sTakenBy:List (Nat × List Nat):=[(0,[4,5]),(1,[4,5,12]),(2,[4,5,12,16]),(3,[4,5,12,16,36]),(4,[4,5,12,16]),(5,[4,5,12,16]),(6,[8])]
def ts_sTakenBy:List Nat:=[0]
def st_sTakenBy_1 (m:Ml) (x12:Int) (x16:Int):St:=[(4,⟨z0,[(false,[(C.pt (Pt.ptr 5 0 [] 8 0 0))])]⟩),(5,⟨z0,[(true,[.tr true (T.int i64 m.c.1),.tr true (T.int i64 m.c.2),.tr true (T.int i64 m.c.3),.tr true (T.int i64 m.c.4),.tr true (T.int i64 m.c.5),.tr true (T.int i64 m.c.6),.tr false (eL 11 Rm.cs m.2),.tr false (eL 1 rowI m.3)])]⟩),(12,⟨z0,[(false,[.tr true (T.int i64 x12)])]⟩),(16,⟨z0,[(false,[.tr true (T.int i64 x16)])]⟩)]
def ex_sTakenBy_1_1 (m:Ml) (x12:Int) (x16:Int):St:=[(4,⟨z0,[(false,[(C.pt (Pt.ptr 5 0 [] 8 0 0))])]⟩),(5,⟨z0,[(true,[.tr true (T.int i64 m.c.1),.tr true (T.int i64 m.c.2),.tr true (T.int i64 m.c.3),.tr true (T.int i64 m.c.4),.tr true (T.int i64 m.c.5),.tr true (T.int i64 m.c.6),.tr false (eL 11 Rm.cs m.2),.tr false (eL 1 rowI m.3)])]⟩),(12,⟨z0,[(false,[.tr true (T.int i64 x12)])]⟩),(16,⟨z0,[(false,[.tr true (T.int i64 x16)])]⟩),(36,⟨z0,[]⟩)]
theorem round_sTakenBy_1 (m:Ml) (x12:Int) (x16:Int) (n:Nat) (K:Ex→St→Res):roundAt prog (tabS []) kp_sTakenBy F_sTakenBy [1,1,0,1,0] n (st_sTakenBy_1 m x12 x16) K=(bif decide (x16 < (↑m.2.length:Int)) then gd (decide (0≤x16)&&(x16.toNat.blt m.2.length&&true))<|gd (T.isI i64 (atL Rm.cs m.2 x16.toNat 6))<|K .normal (st_sTakenBy_1 m (i64.wrap (x12+(atL Rm.cs m.2 x16.toNat 6).toI)) (i64.wrap (x16+1))) else K (.exit 0) (ex_sTakenBy_1_1 m x12 x16)):=by kernel_rfl
theorem post_sTakenBy_1_1 (m:Ml) (x12:Int) (x16:Int) (n:Nat):contAt prog (tabS []) kp_sTakenBy F_sTakenBy ts_sTakenBy [1,1,0,1,0] [] n (.exit 0) (ex_sTakenBy_1_1 m x12 x16)=(some ([(false,[.tr true (T.int i64 x12)])],[(false,[])])):=by kernel_rfl
theorem pre_sTakenBy (m:Ml) (n:Nat):body prog (tabS []) kp_sTakenBy n F_sTakenBy [aR m.cs]=(loopAt prog (tabS []) kp_sTakenBy F_sTakenBy [1,1,0,1,0] n n (st_sTakenBy_1 m (0) (0)) (contAt prog (tabS []) kp_sTakenBy F_sTakenBy ts_sTakenBy [1,1,0,1,0] [] n)):=by kernel_rfl
def ok_sAlignUp (x:Int × Int):Prop:=True
def ea_sAlignUp (x:Int × Int):List Arg:=[aI x.1,aI x.2]
def f_sAlignUp (x:Int × Int):Int:=aup x.1 x.2
noncomputable def e_sAlignUp:Ent:=ent [] ok_sAlignUp ea_sAlignUp (erI 2) f_sAlignUp
theorem ea_sAlignUp_inj (x y:Int × Int) (h:ea_sAlignUp x=ea_sAlignUp y):x=y:=by
 obtain ⟨x1,y1⟩:=x
 obtain ⟨x2,y2⟩:=y
 simp only [ea_sAlignUp,List.cons.injEq,and_true,true_and] at h
 obtain ⟨e0,e1⟩:=h
 obtain rfl:=aI_inj e0
 obtain rfl:=aI_inj e1
 rfl
theorem dm_sAlignUp {x:Int} {y:Int} (h:ok_sAlignUp (x,y)):dom ok_sAlignUp ea_sAlignUp [(0,false,[C.tr false (T.int i64 x)]),(0,false,[C.tr false (T.int i64 y)])]=true:=dom_ea (ea:=ea_sAlignUp) (x:=(x,y)) h
theorem iv_sAlignUp {x:Int} {y:Int} (h:ok_sAlignUp (x,y)):inv ok_sAlignUp ea_sAlignUp [(0,false,[C.tr false (T.int i64 x)]),(0,false,[C.tr false (T.int i64 y)])]=(x,y):=inv_ea ea_sAlignUp_inj (x:=(x,y)) h
theorem d_sAlignUp (x:Int) (y:Int):f_sAlignUp (x,y)=aup x y:=rfl
def i_sAlignUp:Nat:=197
noncomputable abbrev F_sAlignUp:Func:=f197
def kp_sAlignUp:List (Nat × List Nat):=[(0,[0,4,36,40,44]),(1,[0,4,48]),(2,[16]),(3,[16])]
noncomputable abbrev tb24:Sems:=tabS [(i_l1In,e_l1In),(i_sisAl,e_sisAl)]
theorem pre_sAlignUp (x:Int) (y:Int) (n:Nat):body prog tb24 kp_sAlignUp n F_sAlignUp [aI x,aI y]=(bif decide (0≤x) then bif !decide (x≤1000000000) then some ([(false,[.tr true (T.int i64 0)])],[(false,[]),(false,[])]) else bif y == 1 then gd (!y == 0)<|some ([(false,[.tr true (T.int i64 (i64.wrap (i64.wrap ((i64.wrap (i64.wrap (x+y) - 1)).tdiv y) * y)))])],[(false,[]),(false,[])]) else bif y == 2 then gd (!y == 0)<|some ([(false,[.tr true (T.int i64 (i64.wrap (i64.wrap ((i64.wrap (i64.wrap (x+y) - 1)).tdiv y) * y)))])],[(false,[]),(false,[])]) else bif !y == 4 then some ([(false,[.tr true (T.int i64 0)])],[(false,[]),(false,[])]) else gd (!y == 0)<|some ([(false,[.tr true (T.int i64 (i64.wrap (i64.wrap ((i64.wrap (i64.wrap (x+y) - 1)).tdiv y) * y)))])],[(false,[]),(false,[])]) else some ([(false,[.tr true (T.int i64 0)])],[(false,[]),(false,[])])):=by kernel_rfl
def ok_sCeilDiv (x:Int × Int):Prop:=True
def ea_sCeilDiv (x:Int × Int):List Arg:=[aI x.1,aI x.2]
def f_sCeilDiv (x:Int × Int):Int:=cdv x.1 x.2
noncomputable def e_sCeilDiv:Ent:=ent [] ok_sCeilDiv ea_sCeilDiv (erI 2) f_sCeilDiv
theorem ea_sCeilDiv_inj (x y:Int × Int) (h:ea_sCeilDiv x=ea_sCeilDiv y):x=y:=by
 obtain ⟨x1,y1⟩:=x
 obtain ⟨x2,y2⟩:=y
 simp only [ea_sCeilDiv,List.cons.injEq,and_true,true_and] at h
 obtain ⟨e0,e1⟩:=h
 obtain rfl:=aI_inj e0
 obtain rfl:=aI_inj e1
 rfl
theorem dm_sCeilDiv {x:Int} {y:Int} (h:ok_sCeilDiv (x,y)):dom ok_sCeilDiv ea_sCeilDiv [(0,false,[C.tr false (T.int i64 x)]),(0,false,[C.tr false (T.int i64 y)])]=true:=dom_ea (ea:=ea_sCeilDiv) (x:=(x,y)) h
theorem iv_sCeilDiv {x:Int} {y:Int} (h:ok_sCeilDiv (x,y)):inv ok_sCeilDiv ea_sCeilDiv [(0,false,[C.tr false (T.int i64 x)]),(0,false,[C.tr false (T.int i64 y)])]=(x,y):=inv_ea ea_sCeilDiv_inj (x:=(x,y)) h
theorem d_sCeilDiv (x:Int) (y:Int):f_sCeilDiv (x,y)=cdv x y:=rfl
def i_sCeilDiv:Nat:=198
noncomputable abbrev F_sCeilDiv:Func:=f198
def kp_sCeilDiv:List (Nat × List Nat):=[(0,[0,4,36,40,44]),(1,[0,4,48]),(2,[16]),(3,[16])]
theorem pre_sCeilDiv (x:Int) (y:Int) (n:Nat):body prog (tabS [(i_l1In,e_l1In)]) kp_sCeilDiv n F_sCeilDiv [aI x,aI y]=(bif decide (0≤x) then bif !decide (x≤1000000000) then some ([(false,[.tr true (T.int i64 0)])],[(false,[]),(false,[])]) else bif decide (1≤y) then bif !decide (y≤1000000000) then some ([(false,[.tr true (T.int i64 0)])],[(false,[]),(false,[])]) else gd (!y == 0)<|some ([(false,[.tr true (T.int i64 (i64.wrap ((i64.wrap (i64.wrap (x+y) - 1)).tdiv y)))])],[(false,[]),(false,[])]) else some ([(false,[.tr true (T.int i64 0)])],[(false,[]),(false,[])]) else some ([(false,[.tr true (T.int i64 0)])],[(false,[]),(false,[])])):=by kernel_rfl
def ok_sZeros (x:Int):Prop:=True
def ea_sZeros (x:Int):List Arg:=[aI x]
def f_sZeros (x:Int):List UInt8:=zer x
noncomputable def e_sZeros:Ent:=ent [] ok_sZeros ea_sZeros (fun l=>erT 1 (eB l)) f_sZeros
theorem ea_sZeros_inj (x y:Int) (h:ea_sZeros x=ea_sZeros y):x=y:=by
 simp only [ea_sZeros,List.cons.injEq,and_true,true_and] at h
 exact aI_inj h
theorem dm_sZeros {x:Int} (h:ok_sZeros x):dom ok_sZeros ea_sZeros [(0,false,[C.tr false (T.int i64 x)])]=true:=dom_ea (ea:=ea_sZeros) (x:=x) h
theorem iv_sZeros {x:Int} (h:ok_sZeros x):inv ok_sZeros ea_sZeros [(0,false,[C.tr false (T.int i64 x)])]=x:=inv_ea ea_sZeros_inj (x:=x) h
theorem d_sZeros (x:Int):f_sZeros x=zer x:=rfl
def i_sZeros:Nat:=159
noncomputable abbrev F_sZeros:Func:=f159
def kp_sZeros:List (Nat × List Nat):=[(0,[0]),(1,[0,20]),(2,[8]),(3,[8])]
theorem pre_sZeros (x:Int) (n:Nat):body prog (tabS [(i_l1In,e_l1In)]) kp_sZeros n F_sZeros [aI x]=(bif decide (0≤x) then bif !decide (x≤4096) then some ([(false,[.tr true (.arr (1) (0) (rowsT []))])],[(false,[])]) else gd (decide (0≤x)&&(decide (x≤x)&&((x.toNat * 1).ble 70368744177664&&x.toNat.ble 70368744177664)))<|gl x.toNat<|gl x.toNat<|some ([(false,[.tr true (.arr (1) (x.toNat) (cutT 0 x.toNat (zeroT prog 5)))])],[(false,[])]) else some ([(false,[.tr true (.arr (1) (0) (rowsT []))])],[(false,[])])):=by kernel_rfl
end Go.Mach.F
namespace Go.Mach.F
open Go Go.Mach Go.Proofs.Tryz
theorem tkn_take {l:List Rm} {i:Nat} {x:Rm} (h:l[i]?=some x):tkn (l.take (i+1))=IntKind.i64.wrap (tkn (l.take i)+x.chunks):=by
 unfold tkn
 rw [List.take_add_one,h,List.foldl_append]
 rfl
theorem body_iTakenBy (m:Ml) (h:ok_iTakenBy m):body prog (tabS []) kp_iTakenBy (m.rooms.length+1) F_iTakenBy (ea_iTakenBy m)=some (erI 1 (f_iTakenBy m)):=by
 have hlm:=lm
 have hl:m.rooms.length≤LM:=h
 unfold ea_iTakenBy f_iTakenBy
 try dsimp only
 rw [pre_iTakenBy]
 have hst:st_iTakenBy_1 m 0 0=(fun i:Nat=>st_iTakenBy_1 m (tkn (m.rooms.take i)) (i:Nat)) 0:=rfl
 rw [hst,forLoop m.rooms.length (fun i:Nat=>st_iTakenBy_1 m (tkn (m.rooms.take i)) (i:Nat)) (ex_iTakenBy_1_1 m (tkn m.rooms) m.rooms.length) 0 (fun i K hi=>?_) (fun K=>?_) _ (Nat.le_refl _)]
 ·rw [post_iTakenBy_1_1]
  rfl
 ·have hx:=List.getElem?_eq_getElem hi
  rw [round_iTakenBy_1,tkn_take hx]
  simp (disch:=omega) only [rsx0,hi,atL_of hx,Rm.cs,wrapS]
 ·rw [round_iTakenBy_1,List.take_length]
  simp only [lt_d,Nat.lt_irrefl,decide_false,cond_false]
theorem s_iTakenBy:EntOk prog i_iTakenBy e_iTakenBy:=ent_ok ea_iTakenBy_inj fun x hx =>
 body_sound (φ:=(tabS [])) tabS_nil mixed (kp:=kp_iTakenBy) (n:=x.rooms.length+1) func168 (c:=bodyOf F_iTakenBy) (by kernel_rfl) (body_iTakenBy x hx) (name_ok (by kernel_rfl))
theorem body_iAlignUp (x y:Int) (n:Nat) (h:ok_iAlignUp (x,y)):body prog tb23 kp_iAlignUp n F_iAlignUp (ea_iAlignUp (x,y))=some (erI 2 (f_iAlignUp (x,y))):=by
 unfold ea_iAlignUp f_iAlignUp aup inR isAl
 dsimp only
 rw [pre_iAlignUp]
 simp only [int_eq]
 by_cases h1:0≤x
 case neg =>
  simp only [h1,decide_false,cond_false,Bool.false_and]
  rfl
 by_cases h2:x≤1000000000
 case neg =>
  simp only [h1,h2,decide_true,decide_false,cond_true,cond_false,Bool.and_false,Bool.false_and,Bool.not_false]
  rfl
 by_cases h3:y=1
 ·subst h3
  simp only [h1,h2,decide_true,cond_true,Bool.not_true,cond_false,Bool.and_self,Bool.true_or,Bool.true_and]
  rfl
 by_cases h4:y=2
 ·subst h4
  simp only [h1,h2,decide_true,cond_true,Bool.not_true,cond_false,Bool.and_self,Bool.true_or,Bool.or_true,Bool.true_and]
  rfl
 by_cases h5:y=4
 ·subst h5
  simp only [h1,h2,decide_true,cond_true,Bool.not_true,cond_false,Bool.and_self,Bool.or_true,Bool.true_and]
  rfl
 simp only [h1,h2,h3,h4,h5,decide_true,decide_false,cond_true,Bool.not_true,Bool.not_false,cond_false,Bool.and_self,Bool.or_self,Bool.and_false]
 rfl
theorem s_iAlignUp:EntOk prog i_iAlignUp e_iAlignUp:=ent_ok ea_iAlignUp_inj fun x hx =>
 body_sound (φ:=tb23) (tabS_cons s_within (tabS_cons s_iisAl tabS_nil)) mixed (kp:=kp_iAlignUp) (n:=0) func122 (c:=bodyOf F_iAlignUp) (by kernel_rfl) (body_iAlignUp x.1 x.2 (0) hx) (name_ok (by kernel_rfl))
theorem body_iCeilDiv (x y:Int) (n:Nat) (h:ok_iCeilDiv (x,y)):body prog (tabS [(i_within,e_within)]) kp_iCeilDiv n F_iCeilDiv (ea_iCeilDiv (x,y))=some (erI 2 (f_iCeilDiv (x,y))):=by
 unfold ea_iCeilDiv f_iCeilDiv cdv inR
 dsimp only
 rw [pre_iCeilDiv]
 by_cases h1:0≤x
 case neg =>
  simp only [h1,decide_false,cond_false,Bool.false_and]
  rfl
 by_cases h2:x≤1000000000
 case neg =>
  simp only [h1,h2,decide_true,decide_false,cond_true,cond_false,Bool.and_false,Bool.false_and,Bool.not_false]
  rfl
 by_cases h3:1≤y
 case neg =>
  simp only [h1,h2,h3,decide_true,decide_false,cond_true,cond_false,Bool.and_false,Bool.false_and,Bool.not_true,Bool.and_self]
  rfl
 by_cases h4:y≤1000000000
 case neg =>
  simp only [h1,h2,h3,h4,decide_true,decide_false,cond_true,cond_false,Bool.and_false,Bool.and_self,Bool.not_true,Bool.not_false]
  rfl
 have h5:¬ y=0:=by omega
 simp only [h1,h2,h3,h4,h5,int_eq,decide_true,decide_false,cond_true,cond_false,Bool.and_self,Bool.not_true,Bool.not_false,gdt]
 rfl
theorem s_iCeilDiv:EntOk prog i_iCeilDiv e_iCeilDiv:=ent_ok ea_iCeilDiv_inj fun x hx =>
 body_sound (φ:=(tabS [(i_within,e_within)])) (tabS_cons s_within tabS_nil) mixed (kp:=kp_iCeilDiv) (n:=0) func174 (c:=bodyOf F_iCeilDiv) (by kernel_rfl) (body_iCeilDiv x.1 x.2 (0) hx) (name_ok (by kernel_rfl))
theorem body_sTakenBy (m:Ml) (h:ok_sTakenBy m):body prog (tabS []) kp_sTakenBy (m.rooms.length+1) F_sTakenBy (ea_sTakenBy m)=some (erI 1 (f_sTakenBy m)):=by
 have hlm:=lm
 have hl:m.rooms.length≤LM:=h
 unfold ea_sTakenBy f_sTakenBy
 try dsimp only
 rw [pre_sTakenBy]
 have hst:st_sTakenBy_1 m 0 0=(fun i:Nat=>st_sTakenBy_1 m (tkn (m.rooms.take i)) (i:Nat)) 0:=rfl
 rw [hst,forLoop m.rooms.length (fun i:Nat=>st_sTakenBy_1 m (tkn (m.rooms.take i)) (i:Nat)) (ex_sTakenBy_1_1 m (tkn m.rooms) m.rooms.length) 0 (fun i K hi=>?_) (fun K=>?_) _ (Nat.le_refl _)]
 ·rw [post_sTakenBy_1_1]
  rfl
 ·have hx:=List.getElem?_eq_getElem hi
  rw [round_sTakenBy_1,tkn_take hx]
  simp (disch:=omega) only [rsx0,hi,atL_of hx,Rm.cs,wrapS]
 ·rw [round_sTakenBy_1,List.take_length]
  simp only [lt_d,Nat.lt_irrefl,decide_false,cond_false]
theorem s_sTakenBy:EntOk prog i_sTakenBy e_sTakenBy:=ent_ok ea_sTakenBy_inj fun x hx =>
 body_sound (φ:=(tabS [])) tabS_nil mixed (kp:=kp_sTakenBy) (n:=x.rooms.length+1) func99 (c:=bodyOf F_sTakenBy) (by kernel_rfl) (body_sTakenBy x hx) (name_ok (by kernel_rfl))
theorem body_sAlignUp (x y:Int) (n:Nat) (h:ok_sAlignUp (x,y)):body prog tb24 kp_sAlignUp n F_sAlignUp (ea_sAlignUp (x,y))=some (erI 2 (f_sAlignUp (x,y))):=by
 unfold ea_sAlignUp f_sAlignUp aup inR isAl
 dsimp only
 rw [pre_sAlignUp]
 simp only [int_eq]
 by_cases h1:0≤x
 case neg =>
  simp only [h1,decide_false,cond_false,Bool.false_and]
  rfl
 by_cases h2:x≤1000000000
 case neg =>
  simp only [h1,h2,decide_true,decide_false,cond_true,cond_false,Bool.and_false,Bool.false_and,Bool.not_false]
  rfl
 by_cases h3:y=1
 ·subst h3
  simp only [h1,h2,decide_true,cond_true,Bool.not_true,cond_false,Bool.and_self,Bool.true_or,Bool.true_and]
  rfl
 by_cases h4:y=2
 ·subst h4
  simp only [h1,h2,decide_true,cond_true,Bool.not_true,cond_false,Bool.and_self,Bool.true_or,Bool.or_true,Bool.true_and]
  rfl
 by_cases h5:y=4
 ·subst h5
  simp only [h1,h2,decide_true,cond_true,Bool.not_true,cond_false,Bool.and_self,Bool.or_true,Bool.true_and]
  rfl
 simp only [h1,h2,h3,h4,h5,decide_true,decide_false,cond_true,Bool.not_true,Bool.not_false,cond_false,Bool.and_self,Bool.or_self,Bool.and_false]
 rfl
theorem s_sAlignUp:EntOk prog i_sAlignUp e_sAlignUp:=ent_ok ea_sAlignUp_inj fun x hx =>
 body_sound (φ:=tb24) (tabS_cons s_l1In (tabS_cons s_sisAl tabS_nil)) mixed (kp:=kp_sAlignUp) (n:=0) func197 (c:=bodyOf F_sAlignUp) (by kernel_rfl) (body_sAlignUp x.1 x.2 (0) hx) (name_ok (by kernel_rfl))
theorem body_sCeilDiv (x y:Int) (n:Nat) (h:ok_sCeilDiv (x,y)):body prog (tabS [(i_l1In,e_l1In)]) kp_sCeilDiv n F_sCeilDiv (ea_sCeilDiv (x,y))=some (erI 2 (f_sCeilDiv (x,y))):=by
 unfold ea_sCeilDiv f_sCeilDiv cdv inR
 dsimp only
 rw [pre_sCeilDiv]
 by_cases h1:0≤x
 case neg =>
  simp only [h1,decide_false,cond_false,Bool.false_and]
  rfl
 by_cases h2:x≤1000000000
 case neg =>
  simp only [h1,h2,decide_true,decide_false,cond_true,cond_false,Bool.and_false,Bool.false_and,Bool.not_false]
  rfl
 by_cases h3:1≤y
 case neg =>
  simp only [h1,h2,h3,decide_true,decide_false,cond_true,cond_false,Bool.and_false,Bool.false_and,Bool.not_true,Bool.and_self]
  rfl
 by_cases h4:y≤1000000000
 case neg =>
  simp only [h1,h2,h3,h4,decide_true,decide_false,cond_true,cond_false,Bool.and_false,Bool.and_self,Bool.not_true,Bool.not_false]
  rfl
 have h5:¬ y=0:=by omega
 simp only [h1,h2,h3,h4,h5,int_eq,decide_true,decide_false,cond_true,cond_false,Bool.and_self,Bool.not_true,Bool.not_false,gdt]
 rfl
theorem s_sCeilDiv:EntOk prog i_sCeilDiv e_sCeilDiv:=ent_ok ea_sCeilDiv_inj fun x hx =>
 body_sound (φ:=(tabS [(i_l1In,e_l1In)])) (tabS_cons s_l1In tabS_nil) mixed (kp:=kp_sCeilDiv) (n:=0) func198 (c:=bodyOf F_sCeilDiv) (by kernel_rfl) (body_sCeilDiv x.1 x.2 (0) hx) (name_ok (by kernel_rfl))
theorem body_sZeros (x:Int) (n:Nat) (h:ok_sZeros x):body prog (tabS [(i_l1In,e_l1In)]) kp_sZeros n F_sZeros (ea_sZeros x)=some (erT 1 (eB (f_sZeros x))):=by
 unfold ea_sZeros f_sZeros zer inR
 rw [pre_sZeros]
 have r0:T.arr 1 0 (rowsT [])=T.arr 1 0 (atL rowB []):=by rw [rowsT0 rowB]
 by_cases h1:0≤x
 case neg =>
  simp only [h1,decide_false,cond_false,Bool.false_and,r0]
  rfl
 by_cases h2:x≤4096
 case neg =>
  simp only [h1,h2,decide_true,decide_false,cond_true,cond_false,Bool.and_false,Bool.false_and,Bool.not_false,r0]
  rfl
 have h3:x.toNat * 1≤70368744177664:=by omega
 have h4:x.toNat≤70368744177664:=by omega
 simp only [h1,h2,h3,h4,ble_d,Nat.le_refl,Int.le_refl,decide_true,cond_true,cond_false,Bool.and_self,Bool.and_true,Bool.not_true,gdt]
 rw [zero_fill (m:=1) (row:=rowB) (d:=0) x.toNat (fun j k=>by rcases k with _ | _ <;> kernel_rfl)]
 simp only [erT,eL_T,List.length_replicate]
 rfl
theorem s_sZeros:EntOk prog i_sZeros e_sZeros:=ent_ok ea_sZeros_inj fun x hx =>
 body_sound (φ:=(tabS [(i_l1In,e_l1In)])) (tabS_cons s_l1In tabS_nil) mixed (kp:=kp_sZeros) (n:=0) func159 (c:=bodyOf F_sZeros) (by kernel_rfl) (body_sZeros x (0) hx) (name_ok (by kernel_rfl))
end Go.Mach.F
namespace Go.Mach.F
open Go Go.Mach Go.Proofs.Tryz Go.IntKind
--=set_option maxRecDepth 100000
theorem lT_inj {t t':T} (h:lT t=lT t'):t=t':=by cases h;rfl
theorem vT_inj {t t':T} (h:vT t=vT t'):t=t':=by cases h;rfl
def ok_Rev (x:List Int):Prop:=x.length≤LM
def ea_Rev (x:List Int):List Arg:=[lT (eI x)]
def f_Rev (x:List Int):List Int:=x.reverse
noncomputable def e_Rev:Ent:=ent [1] ok_Rev ea_Rev (fun l=>([],[oT (eI l)])) f_Rev
theorem ea_Rev_inj (x y:List Int) (h:ea_Rev x=ea_Rev y):x=y:=by
 simp only [ea_Rev,List.cons.injEq,and_true,true_and] at h
 exact eI_inj (lT_inj h)
theorem dm_Rev {l:List Int} (h:ok_Rev l):dom ok_Rev ea_Rev [(1,false,[C.tr true (T.arr 1 l.length (atL rowI l))])]=true:=dom_ea (ea:=ea_Rev) (x:=l) h
theorem iv_Rev {l:List Int} (h:ok_Rev l):inv ok_Rev ea_Rev [(1,false,[C.tr true (T.arr 1 l.length (atL rowI l))])]=l:=inv_ea ea_Rev_inj (x:=l) h
theorem d_Rev (l:List Int):f_Rev l=l.reverse:=rfl
def i_Rev:Nat:=202
noncomputable abbrev F_Rev:Func:=f202
def kp_Rev:List (Nat × List Nat):=[(0,[0,8,12,2]),(1,[0,8,12,36,2]),(2,[0,8,12,2]),(3,[0,8,12,2])]
def ts_Rev:List Nat:=[1]
def st_Rev_1 (l:List Int) (x8:Int) (x12:Int) (nx2:Nat) (fx2:Nat→Nat→T):St:=[(0,⟨z0,[(false,[(C.ref 2 0 [0,0] 1 0 l.length)])]⟩),(8,⟨z0,[(false,[.tr true (T.int i64 x8)])]⟩),(12,⟨z0,[(false,[.tr true (T.int i64 x12)])]⟩),(2,⟨z0,[(false,[.tr true (.arr (1) (nx2) (fx2))])]⟩)]
def ex_Rev_1_1 (l:List Int) (x8:Int) (x12:Int) (nx2:Nat) (fx2:Nat→Nat→T):St:=[(0,⟨z0,[(false,[(C.ref 2 0 [0,0] 1 0 l.length)])]⟩),(8,⟨z0,[(false,[.tr true (T.int i64 x8)])]⟩),(12,⟨z0,[(false,[.tr true (T.int i64 x12)])]⟩),(36,⟨z0,[]⟩),(2,⟨z0,[(false,[.tr true (.arr (1) (nx2) (fx2))])]⟩)]
theorem round_Rev_1 (l:List Int) (x8:Int) (x12:Int) (nx2:Nat) (fx2:Nat→Nat→T) (n:Nat) (K:Ex→St→Res):roundAt prog (tabS []) kp_Rev F_Rev [1,0] n (st_Rev_1 l x8 x12 nx2 fx2) K=(bif decide (x8 < x12) then gd (decide (0≤x12)&&(x12.toNat.blt l.length&&true))<|gd ((0+x12.toNat).blt nx2&&true&&T.isI i64 (fx2 (0+x12.toNat) 0))<|gd (decide (0≤x8)&&(x8.toNat.blt l.length&&true))<|gd ((0+x8.toNat).blt nx2&&true&&T.isI i64 (fx2 (0+x8.toNat) 0))<|gd (decide (0≤x8)&&(x8.toNat.blt l.length&&true))<|gd ((0+x8.toNat).blt nx2&&true&&true)<|gd (decide (0≤x12)&&(x12.toNat.blt l.length&&true))<|gd ((0+x12.toNat).blt nx2&&true&&true)<|K .normal (st_Rev_1 l (i64.wrap (x8+1)) (i64.wrap (x12 - 1)) (nx2) (setF (0+x12.toNat) 0 (T.int i64 (fx2 (0+x8.toNat) 0).toI) (setF (0+x8.toNat) 0 (T.int i64 (fx2 (0+x12.toNat) 0).toI) fx2))) else K (.exit 0) (ex_Rev_1_1 l x8 x12 nx2 fx2)):=by kernel_rfl
theorem post_Rev_1_1 (l:List Int) (x8:Int) (x12:Int) (nx2:Nat) (fx2:Nat→Nat→T) (n:Nat):contAt prog (tabS []) kp_Rev F_Rev ts_Rev [1,0] [] n (.exit 0) (ex_Rev_1_1 l x8 x12 nx2 fx2)=(some ([],[(false,[.tr true (.arr (1) (nx2) (fx2))])])):=by kernel_rfl
theorem pre_Rev (l:List Int) (n:Nat):body prog (tabS []) kp_Rev n F_Rev [lT (eI l)]=(loopAt prog (tabS []) kp_Rev F_Rev [1,0] n n (st_Rev_1 l (0) (i64.wrap ((↑l.length:Int) - 1)) (l.length) (atL rowI l)) (contAt prog (tabS []) kp_Rev F_Rev ts_Rev [1,0] [] n)):=by kernel_rfl
def ok_iTagsDown (x:List Int):Prop:=x.length≤LM
def ea_iTagsDown (x:List Int):List Arg:=[aT (eI x)]
def f_iTagsDown (x:List Int):List Int:=x.reverse
noncomputable def e_iTagsDown:Ent:=ent [] ok_iTagsDown ea_iTagsDown (fun l=>erT 1 (eI l)) f_iTagsDown
theorem ea_iTagsDown_inj (x y:List Int) (h:ea_iTagsDown x=ea_iTagsDown y):x=y:=by
 simp only [ea_iTagsDown,List.cons.injEq,and_true,true_and] at h
 exact eI_inj (aT_inj h)
theorem dm_iTagsDown {l:List Int} (h:ok_iTagsDown l):dom ok_iTagsDown ea_iTagsDown [(0,false,[C.tr false (T.arr 1 l.length (atL rowI l))])]=true:=dom_ea (ea:=ea_iTagsDown) (x:=l) h
theorem iv_iTagsDown {l:List Int} (h:ok_iTagsDown l):inv ok_iTagsDown ea_iTagsDown [(0,false,[C.tr false (T.arr 1 l.length (atL rowI l))])]=l:=inv_ea ea_iTagsDown_inj (x:=l) h
theorem d_iTagsDown (l:List Int):f_iTagsDown l=l.reverse:=rfl
def i_iTagsDown:Nat:=177
noncomputable abbrev F_iTagsDown:Func:=f177
def kp_iTagsDown:List (Nat × List Nat):=[(0,[0]),(1,[12]),(2,[12]),(3,[8])]
noncomputable abbrev tb25:Sems:=tabS [(i_clI,e_clI),(i_Rev,e_Rev)]
theorem pre_iTagsDown (l:List Int) (n:Nat):body prog tb25 kp_iTagsDown n F_iTagsDown [aT (eI l)]=(entK ok_clI ea_clI (f_clI) [(0,false,[C.tr false (T.arr 1 l.length (atL rowI l))])] fun (r1:List Int)=>gl r1.length<|gk r1.length<|entK ok_Rev ea_Rev (f_Rev) [(1,false,[C.tr true (T.arr 1 r1.length (atL rowI r1))])] fun (r2:List Int)=>gd (r1.length.beq r2.length&&true)<|gl r2.length<|gl r2.length<|some ([(false,[.tr true (.arr (1) (r2.length) (atL rowI r2))])],[(false,[])])):=by kernel_rfl
def ok_sTagsDown (x:List Int):Prop:=x.length≤LM
def ea_sTagsDown (x:List Int):List Arg:=[aT (eI x)]
def f_sTagsDown (x:List Int):List Int:=x.reverse
noncomputable def e_sTagsDown:Ent:=ent [] ok_sTagsDown ea_sTagsDown (fun l=>erT 1 (eI l)) f_sTagsDown
theorem ea_sTagsDown_inj (x y:List Int) (h:ea_sTagsDown x=ea_sTagsDown y):x=y:=by
 simp only [ea_sTagsDown,List.cons.injEq,and_true,true_and] at h
 exact eI_inj (aT_inj h)
theorem dm_sTagsDown {l:List Int} (h:ok_sTagsDown l):dom ok_sTagsDown ea_sTagsDown [(0,false,[C.tr false (T.arr 1 l.length (atL rowI l))])]=true:=dom_ea (ea:=ea_sTagsDown) (x:=l) h
theorem iv_sTagsDown {l:List Int} (h:ok_sTagsDown l):inv ok_sTagsDown ea_sTagsDown [(0,false,[C.tr false (T.arr 1 l.length (atL rowI l))])]=l:=inv_ea ea_sTagsDown_inj (x:=l) h
theorem d_sTagsDown (l:List Int):f_sTagsDown l=l.reverse:=rfl
def i_sTagsDown:Nat:=162
noncomputable abbrev F_sTagsDown:Func:=f162
def kp_sTagsDown:List (Nat × List Nat):=[(0,[0]),(1,[0,12]),(2,[0,12,16]),(3,[0,12,16,40]),(4,[0,12,16]),(5,[0,12,16]),(6,[8])]
def ts_sTagsDown:List Nat:=[0]
def st_sTagsDown_1 (l:List Int) (nx12:Nat) (fx12:Nat→Nat→T) (x16:Int):St:=[(0,⟨z0,[(false,[.tr false (.arr (1) (l.length) (atL rowI l))])]⟩),(12,⟨z0,[(false,[.tr true (.arr (1) (nx12) (fx12))])]⟩),(16,⟨z0,[(false,[.tr true (T.int i64 x16)])]⟩)]
def ex_sTagsDown_1_1 (l:List Int) (nx12:Nat) (fx12:Nat→Nat→T) (x16:Int):St:=[(0,⟨z0,[(false,[.tr false (.arr (1) (l.length) (atL rowI l))])]⟩),(12,⟨z0,[(false,[.tr true (.arr (1) (nx12) (fx12))])]⟩),(16,⟨z0,[(false,[.tr true (T.int i64 x16)])]⟩),(40,⟨z0,[]⟩)]
theorem round_sTagsDown_1 (l:List Int) (nx12:Nat) (fx12:Nat→Nat→T) (x16:Int) (n:Nat) (K:Ex→St→Res):roundAt prog (tabS []) kp_sTagsDown F_sTagsDown [1,1,0,1,0] n (st_sTagsDown_1 l nx12 fx12 x16) K=(bif decide (0≤x16) then gd (decide (0≤x16)&&(x16.toNat.blt l.length&&true))<|gd (T.isI i64 (atL rowI l x16.toNat 0))<|gl nx12<|gd (((nx12+1) * 8).ble 70368744177664&&(nx12+1).ble 70368744177664)<|gd ((nx12+1).ble (nx12+1)&&true)<|K .normal (st_sTagsDown_1 l (nx12+1) (appF nx12 fx12 (plainF (cutT 0 1 (rowsT [[T.int i64 (atL rowI l x16.toNat 0).toI]])))) (i64.wrap (x16 - 1))) else K (.exit 0) (ex_sTagsDown_1_1 l nx12 fx12 x16)):=by kernel_rfl
theorem post_sTagsDown_1_1 (l:List Int) (nx12:Nat) (fx12:Nat→Nat→T) (x16:Int) (n:Nat):contAt prog (tabS []) kp_sTagsDown F_sTagsDown ts_sTagsDown [1,1,0,1,0] [] n (.exit 0) (ex_sTagsDown_1_1 l nx12 fx12 x16)=(gl nx12<|gl nx12<|some ([(false,[.tr true (.arr (1) (nx12) (fx12))])],[(false,[])])):=by kernel_rfl
theorem pre_sTagsDown (l:List Int) (n:Nat):body prog (tabS []) kp_sTagsDown n F_sTagsDown [aT (eI l)]=(loopAt prog (tabS []) kp_sTagsDown F_sTagsDown [1,1,0,1,0] n n (st_sTagsDown_1 l (0) (rowsT []) (i64.wrap ((↑l.length:Int) - 1))) (contAt prog (tabS []) kp_sTagsDown F_sTagsDown ts_sTagsDown [1,1,0,1,0] [] n)):=by kernel_rfl
end Go.Mach.F
namespace Go.Mach.F
open Go Go.Mach Go.Proofs.Tryz Go.IntKind
--=set_option maxRecDepth 100000
def insL {α:Type} (l:List α) (i:Int) (x:α):List α:=l.take i.toNat ++ [x] ++ l.drop i.toNat
def ok_InsHd (y:List Hd × Int × Hd):Prop:=0≤y.2.1∧y.2.1≤(y.1.length:Int)∧y.1.length≤LM
def ea_InsHd (y:List Hd × Int × Hd):List Arg:=[vT (eL 2 Hd.cs y.1),aI y.2.1,vT (eL 2 Hd.cs [y.2.2])]
def f_InsHd (y:List Hd × Int × Hd):List Hd:=insL y.1 y.2.1 y.2.2
noncomputable def e_InsHd:Ent:=ent [3,0,3] ok_InsHd ea_InsHd (fun l=>([oT (eL 2 Hd.cs l)],[nul,nul,nul])) f_InsHd
theorem ea_InsHd_inj (x y:List Hd × Int × Hd) (h:ea_InsHd x=ea_InsHd y):x=y:=by
 obtain ⟨l1,i1,x1⟩:=x
 obtain ⟨l2,i2,x2⟩:=y
 simp only [ea_InsHd,List.cons.injEq,and_true,true_and] at h
 obtain ⟨e0,e1,e2⟩:=h
 obtain rfl:=eL_inj Hd.cs_inj (vT_inj e0)
 obtain rfl:=aI_inj e1
 have e3:=eL_inj Hd.cs_inj (vT_inj e2)
 obtain rfl:=(List.cons.inj e3).1
 rfl
theorem dm_InsHd {l:List Hd} {i:Int} {x:Hd} (h:ok_InsHd (l,i,x)):dom ok_InsHd ea_InsHd [(3,false,[C.tr true (T.arr 2 l.length (atL Hd.cs l))]),(0,false,[C.tr false (T.int i64 i)]),(3,false,[C.tr true (T.arr 2 1 (atL Hd.cs [x]))])]=true:=dom_ea (ea:=ea_InsHd) (x:=(l,i,x)) h
theorem iv_InsHd {l:List Hd} {i:Int} {x:Hd} (h:ok_InsHd (l,i,x)):inv ok_InsHd ea_InsHd [(3,false,[C.tr true (T.arr 2 l.length (atL Hd.cs l))]),(0,false,[C.tr false (T.int i64 i)]),(3,false,[C.tr true (T.arr 2 1 (atL Hd.cs [x]))])]=(l,i,x):=inv_ea ea_InsHd_inj (x:=(l,i,x)) h
theorem d_InsHd (l:List Hd) (i:Int) (x:Hd):f_InsHd (l,i,x)=insL l i x:=rfl
def i_InsHd:Nat:=115
theorem s_InsHd:EntOk prog i_InsHd e_InsHd:=ent_ok ea_InsHd_inj fun y hy=>by
 obtain ⟨l,i,x⟩:=y
 obtain ⟨h0,h1,h2⟩:=hy
 dsimp only at h0 h1 h2
 have hlm:=lm
 obtain ⟨k,rfl⟩:∃ k:Nat,i=(k:Int):=⟨i.toNat,by omega⟩
 have hk:k≤l.length:=by omega
 have e:eL 2 Hd.cs (insL l (k:Int) x)=T.arr 2 (l.length+1) (insF k (atL Hd.cs l) (atL Hd.cs [x])):=by
  rw [insF_list hk]
  unfold insL
  rw [Int.toNat_natCast,eL_T]
  congr 1
  simp only [List.length_append,List.length_take,List.length_drop,List.length_singleton]
  omega
 have hb:(l.length+1) * 16≤140737488355328:=by omega
 show Sound prog i_InsHd _ [oT (eL 2 Hd.cs (insL l (k:Int) x))] _
 rw [e]
 exact insert_sound ⟨_,func115,by kernel_rfl,name_ok (by kernel_rfl)⟩ hk
  (fun w b off c vb voff vc cs vs hs hv hne=>ins_raw_Hd hs hv hne hk hb)
  (fun _ w vb voff vc vs hv=>ins_nil_Hd hv)
def ok_InsRm (y:List Rm × Int × Rm):Prop:=0≤y.2.1∧y.2.1≤(y.1.length:Int)∧y.1.length≤LM
def ea_InsRm (y:List Rm × Int × Rm):List Arg:=[vT (eL 11 Rm.cs y.1),aI y.2.1,vT (eL 11 Rm.cs [y.2.2])]
def f_InsRm (y:List Rm × Int × Rm):List Rm:=insL y.1 y.2.1 y.2.2
noncomputable def e_InsRm:Ent:=ent [3,0,3] ok_InsRm ea_InsRm (fun l=>([oT (eL 11 Rm.cs l)],[nul,nul,nul])) f_InsRm
theorem ea_InsRm_inj (x y:List Rm × Int × Rm) (h:ea_InsRm x=ea_InsRm y):x=y:=by
 obtain ⟨l1,i1,x1⟩:=x
 obtain ⟨l2,i2,x2⟩:=y
 simp only [ea_InsRm,List.cons.injEq,and_true,true_and] at h
 obtain ⟨e0,e1,e2⟩:=h
 obtain rfl:=eL_inj Rm.cs_inj (vT_inj e0)
 obtain rfl:=aI_inj e1
 have e3:=eL_inj Rm.cs_inj (vT_inj e2)
 obtain rfl:=(List.cons.inj e3).1
 rfl
theorem dm_InsRm {l:List Rm} {i:Int} {x:Rm} (h:ok_InsRm (l,i,x)):dom ok_InsRm ea_InsRm [(3,false,[C.tr true (T.arr 11 l.length (atL Rm.cs l))]),(0,false,[C.tr false (T.int i64 i)]),(3,false,[C.tr true (T.arr 11 1 (atL Rm.cs [x]))])]=true:=dom_ea (ea:=ea_InsRm) (x:=(l,i,x)) h
theorem iv_InsRm {l:List Rm} {i:Int} {x:Rm} (h:ok_InsRm (l,i,x)):inv ok_InsRm ea_InsRm [(3,false,[C.tr true (T.arr 11 l.length (atL Rm.cs l))]),(0,false,[C.tr false (T.int i64 i)]),(3,false,[C.tr true (T.arr 11 1 (atL Rm.cs [x]))])]=(l,i,x):=inv_ea ea_InsRm_inj (x:=(l,i,x)) h
theorem d_InsRm (l:List Rm) (i:Int) (x:Rm):f_InsRm (l,i,x)=insL l i x:=rfl
def i_InsRm:Nat:=118
theorem s_InsRm:EntOk prog i_InsRm e_InsRm:=ent_ok ea_InsRm_inj fun y hy=>by
 obtain ⟨l,i,x⟩:=y
 obtain ⟨h0,h1,h2⟩:=hy
 dsimp only at h0 h1 h2
 have hlm:=lm
 obtain ⟨k,rfl⟩:∃ k:Nat,i=(k:Int):=⟨i.toNat,by omega⟩
 have hk:k≤l.length:=by omega
 have e:eL 11 Rm.cs (insL l (k:Int) x)=T.arr 11 (l.length+1) (insF k (atL Rm.cs l) (atL Rm.cs [x])):=by
  rw [insF_list hk]
  unfold insL
  rw [Int.toNat_natCast,eL_T]
  congr 1
  simp only [List.length_append,List.length_take,List.length_drop,List.length_singleton]
  omega
 have hb:(l.length+1) * 136≤140737488355328:=by omega
 show Sound prog i_InsRm _ [oT (eL 11 Rm.cs (insL l (k:Int) x))] _
 rw [e]
 exact insert_sound ⟨_,func118,by kernel_rfl,name_ok (by kernel_rfl)⟩ hk
  (fun w b off c vb voff vc cs vs hs hv hne=>ins_raw_Rm hs hv hne hk hb)
  (fun _ w vb voff vc vs hv=>ins_nil_Rm hv)
def gtx (l:List Rm) (h:Hd):Int:=match (List.range l.length).find? (fun i=>decide (h.slot < (l.getD i zRm).h.slot)) with | some i=>(i:Int) | none=>-1
/-- Where a room is put. -/
def insP (l:List Rm) (h:Hd):Int:=bif decide (gtx l h < 0) then (l.length:Int) else gtx l h
def newR (h up:Hd):Rm:=⟨h,up,[],0,1,true,0,[],[]⟩
def kidR (l:List Rm) (k:Int) (h:Hd):List Rm:=bif decide (0≤k) then l.set k.toNat { l.getD k.toNat zRm with kids:=h :: (l.getD k.toNat zRm).kids } else l
def putM (m:Ml) (k:Int) (up h:Hd):Ml:=⟨m.c,insL (kidR m.rooms k h) (insP (kidR m.rooms k h) h) (newR h up),m.log⟩
def emkT (m:Ml) (k:Int) (up h:Hd) (b:Bool):Ml × Int:=bif b then (bif decide (m.c.chunks < i64.wrap (tkn m.rooms+1)) then (m,5) else (putM m k up h,0)) else (m,4)
def emkM (m:Ml) (up h:Hd) (b:Bool):Ml × Int:=bif decide (up=⟨0,0⟩) then emkT m (-1) up h b else
 bif decide ((rsv m up).2=0) then (bif decide (4≤dpn m.rooms m.rooms.length up) then (m,3) else emkT m (rsv m up).1 up h b) else (m,(rsv m up).2)
def i_gtS:Nat:=117
noncomputable abbrev F_gtS:Func:=f117
def kp_gtS:List (Nat × List Nat):=[(0,[4,8,9]),(1,[12])]
noncomputable def e_gtS:Ent:=inl [0,0] prog (tabS []) kp_gtS 0 F_gtS
theorem s_gtS:EntOk prog i_gtS e_gtS:=inl_ok tabS_nil mixed (c:=bodyOf F_gtS) func117 (by kernel_rfl) (name_ok (by kernel_rfl))
def ok_ixGt (x:List Rm × Hd):Prop:=x.1.length≤LM
def ea_ixGt (x:List Rm × Hd):List Arg:=[aT (eL 11 Rm.cs x.1),aF i_gtS x.2.cs]
def f_ixGt (x:List Rm × Hd):Int:=gtx x.1 x.2
noncomputable def e_ixGt:Ent:=ent [] ok_ixGt ea_ixGt (erI 2) f_ixGt
theorem ea_ixGt_inj (x y:List Rm × Hd) (h:ea_ixGt x=ea_ixGt y):x=y:=by
 obtain ⟨l1,h1⟩:=x
 obtain ⟨l2,h2⟩:=y
 simp only [ea_ixGt,List.cons.injEq,and_true,true_and] at h
 obtain ⟨e0,e1⟩:=h
 obtain rfl:=eL_inj Rm.cs_inj (aT_inj e0)
 obtain rfl:=Hd.cs_ext (aF_inj (by rfl) e1)
 rfl
theorem dm_ixGt {l:List Rm} {h:Hd} (h0:ok_ixGt (l,h)):dom ok_ixGt ea_ixGt [(0,false,[C.tr false (T.arr 11 l.length (atL Rm.cs l))]),(0,false,[C.fn 117 [Pt.pim 2 (pimF [T.int i64 h.slot,T.int i64 h.gen])]])]=true:=dom_ea (ea:=ea_ixGt) (x:=(l,h)) h0
theorem iv_ixGt {l:List Rm} {h:Hd} (h0:ok_ixGt (l,h)):inv ok_ixGt ea_ixGt [(0,false,[C.tr false (T.arr 11 l.length (atL Rm.cs l))]),(0,false,[C.fn 117 [Pt.pim 2 (pimF [T.int i64 h.slot,T.int i64 h.gen])]])]=(l,h):=inv_ea ea_ixGt_inj (x:=(l,h)) h0
theorem d_ixGt (l:List Rm) (h:Hd):f_ixGt (l,h)=gtx l h:=rfl
def i_ixGt:Nat:=116
noncomputable abbrev F_ixGt:Func:=f116
def kp_ixGt:List (Nat × List Nat):=[(0,[0,4]),(1,[0,4,28,32]),(2,[0,4,28,32,36]),(3,[0,4,20,28,32]),(4,[0,4,20,28,32,64]),(5,[16]),(6,[0,4,28,32]),(7,[16])]
def ts_ixGt:List Nat:=[0,0]
def st_ixGt_1 (l:List Rm) (h:Hd) (x32:Int):St:=[(0,⟨z0,[(false,[.tr false (eL 11 Rm.cs l)])]⟩),(4,⟨z0,[(false,[(C.fn 117 [Pt.pim [T.int i64 h.1,T.int i64 h.2].length (pimF [T.int i64 h.1,T.int i64 h.2])])])]⟩),(28,⟨z0,[(false,[.tr true (T.int i64 (↑l.length:Int))])]⟩),(32,⟨z0,[(false,[.tr true (T.int i64 x32)])]⟩)]
def ex_ixGt_1_1 (l:List Rm) (h:Hd) (x32:Int):St:=[(16,⟨z0,[(false,[.tr true (T.int i64 x32)])]⟩)]
def ex_ixGt_1_2 (l:List Rm) (h:Hd) (x32:Int):St:=[(0,⟨z0,[(false,[.tr false (eL 11 Rm.cs l)])]⟩),(4,⟨z0,[(false,[(C.fn 117 [Pt.pim [T.int i64 h.1,T.int i64 h.2].length (pimF [T.int i64 h.1,T.int i64 h.2])])])]⟩),(28,⟨z0,[(false,[.tr true (T.int i64 (↑l.length:Int))])]⟩),(32,⟨z0,[(false,[.tr true (T.int i64 x32)])]⟩),(36,⟨z0,[]⟩)]
theorem round_ixGt_1 (l:List Rm) (h:Hd) (x32:Int) (n:Nat) (K:Ex→St→Res):roundAt prog (tabS [(i_gtS,e_gtS)]) kp_ixGt F_ixGt [1,0,1,0] n (st_ixGt_1 l h x32) K=(bif decide (x32 < (↑l.length:Int)) then gd (decide (0≤x32)&&(x32.toNat.blt l.length&&true))<|gd (T.isI i64 (atL Rm.cs l x32.toNat 0)&&T.isI i64 (atL Rm.cs l x32.toNat 1)&&T.isI i64 (atL Rm.cs l x32.toNat 2)&&T.isI i64 (atL Rm.cs l x32.toNat 3)&&((atL Rm.cs l x32.toNat 4).isArr&&(atL Rm.cs l x32.toNat 4).wd.beq 2)&&T.isI i64 (atL Rm.cs l x32.toNat 5)&&T.isI i64 (atL Rm.cs l x32.toNat 6)&&(atL Rm.cs l x32.toNat 7).isB&&T.isI i64 (atL Rm.cs l x32.toNat 8)&&((atL Rm.cs l x32.toNat 9).isArr&&(atL Rm.cs l x32.toNat 9).wd.beq 1)&&((atL Rm.cs l x32.toNat 10).isArr&&(atL Rm.cs l x32.toNat 10).wd.beq 1))<|bif decide ((T.int i64 h.1).toI < (atL Rm.cs l x32.toNat 0).toI) then K .ret (ex_ixGt_1_1 l h x32) else K .normal (st_ixGt_1 l h (i64.wrap (x32+1))) else K (.exit 0) (ex_ixGt_1_2 l h x32)):=by kernel_rfl
theorem post_ixGt_1_1 (l:List Rm) (h:Hd) (x32:Int) (n:Nat):contAt prog (tabS [(i_gtS,e_gtS)]) kp_ixGt F_ixGt ts_ixGt [1,0,1,0] [] n .ret (ex_ixGt_1_1 l h x32)=(some ([(false,[.tr true (T.int i64 x32)])],[(false,[]),(false,[])])):=by kernel_rfl
theorem post_ixGt_1_2 (l:List Rm) (h:Hd) (x32:Int) (n:Nat):contAt prog (tabS [(i_gtS,e_gtS)]) kp_ixGt F_ixGt ts_ixGt [1,0,1,0] [] n (.exit 0) (ex_ixGt_1_2 l h x32)=(some ([(false,[.tr true (T.int i64 (-1))])],[(false,[]),(false,[])])):=by kernel_rfl
theorem pre_ixGt (l:List Rm) (h:Hd) (n:Nat):body prog (tabS [(i_gtS,e_gtS)]) kp_ixGt n F_ixGt [aT (eL 11 Rm.cs l),aF i_gtS h.cs]=(loopAt prog (tabS [(i_gtS,e_gtS)]) kp_ixGt F_ixGt [1,0,1,0] n n (st_ixGt_1 l h (0)) (contAt prog (tabS [(i_gtS,e_gtS)]) kp_ixGt F_ixGt ts_ixGt [1,0,1,0] [] n)):=by kernel_rfl
def i_itk:Nat:=114
noncomputable abbrev F_itk:Func:=f114
def kp_itk:List (Nat × List Nat):=[(0,[4,8,9]),(1,[16])]
noncomputable def e_itk:Ent:=inl [] prog (tabS [(i_iTakenBy,e_iTakenBy)]) kp_itk 0 F_itk
theorem s_itk:EntOk prog i_itk e_itk:=inl_ok (tabS_cons s_iTakenBy tabS_nil) mixed (c:=bodyOf F_itk) func114 (by kernel_rfl) (name_ok (by kernel_rfl))
def ok_iEmk (x:Ml × Hd × Hd × Bool):Prop:=ok_RmS x.1.rooms∧ok_LI x.1.log
def ea_iEmk (x:Ml × Hd × Hd × Bool):List Arg:=[aR x.1.cs,aR x.2.1.cs,aR x.2.2.1.cs,aB x.2.2.2]
def f_iEmk (x:Ml × Hd × Hd × Bool):Ml × Int:=emkM x.1 x.2.1 x.2.2.1 x.2.2.2
noncomputable def e_iEmk:Ent:=ent [] ok_iEmk ea_iEmk (fun (x:Ml × Int)=>([oR x.1.cs,oT (.int .i64 x.2)],[nul,nul,nul,nul])) f_iEmk
theorem ea_iEmk_inj (x y:Ml × Hd × Hd × Bool) (h:ea_iEmk x=ea_iEmk y):x=y:=by
 obtain ⟨m1,up1,h1,b1⟩:=x
 obtain ⟨m2,up2,h2,b2⟩:=y
 simp only [ea_iEmk,List.cons.injEq,and_true,true_and] at h
 obtain ⟨e0,e1,e2,e3⟩:=h
 obtain rfl:=Ml.cs_ext (aR_inj e0)
 obtain rfl:=Hd.cs_ext (aR_inj e1)
 obtain rfl:=Hd.cs_ext (aR_inj e2)
 obtain rfl:=aB_inj e3
 rfl
theorem dm_iEmk {m:Ml} {up:Hd} {h:Hd} {b:Bool} (h0:ok_iEmk (m,up,h,b)):dom ok_iEmk ea_iEmk [(wMl m),(wHd up),(wHd h),(0,false,[C.tr false (T.bool b)])]=true:=dom_ea (ea:=ea_iEmk) (x:=(m,up,h,b)) h0
theorem iv_iEmk {m:Ml} {up:Hd} {h:Hd} {b:Bool} (h0:ok_iEmk (m,up,h,b)):inv ok_iEmk ea_iEmk [(wMl m),(wHd up),(wHd h),(0,false,[C.tr false (T.bool b)])]=(m,up,h,b):=inv_ea ea_iEmk_inj (x:=(m,up,h,b)) h0
theorem d_iEmk (m:Ml) (up:Hd) (h:Hd) (b:Bool):f_iEmk (m,up,h,b)=emkM m up h b:=rfl
def i_iEmk:Nat:=58
noncomputable abbrev F_iEmk:Func:=f58
def kp_iEmk:List (Nat × List Nat):=[(0,[12,16,17,20,21,24,25,32,33,40,41,64,116,144,164,180,320]),(1,[12,16,17,20,21,24,25,32,33,40,41,44,64,116,144,164,180,320]),(2,[12,16,17,20,21,24,25,32,33,40,41,44,64,76,116,144,164,180,320]),(3,[12,16,17,20,21,24,25,32,33,40,41,48,52,64,116,144,164,180,320]),(4,[12,16,17,20,21,24,25,32,33,40,41,48,52,64,104,116,144,164,180,320]),(5,[32,33,36,40,41,64,116,144,164,180,320]),(6,[12,16,17,20,21,24,25,32,33,40,41,48,64,116,124,144,164,180,320]),(7,[32,33,36,40,41,64,116,144,164,180,320]),(8,[12,16,17,20,21,24,25,32,33,40,41,44,64,116,144,164,180,320]),(9,[16,17,20,21,24,25,32,33,40,41,44,64,116,144,152,164,180,320]),(10,[32,33,36,40,41,64,116,144,164,180,320]),(11,[20,21,24,25,32,33,40,41,44,64,116,144,164,168,180,320]),(12,[32,33,36,40,41,64,116,144,164,180,320]),(13,[20,21,24,25,32,33,40,41,44,64,116,144,164,180,188,320]),(14,[20,21,24,25,32,33,40,41,64,116,144,164,180,320]),(15,[20,21,24,25,32,33,40,41,56,64,116,144,164,180,320]),(16,[20,21,24,25,32,33,40,41,56,64,116,144,164,180,268,320]),(17,[20,21,24,25,32,33,40,41,56,64,116,144,164,180,320]),(18,[32,33,40,41,64,116,144,164,180,320]),(19,[32,33,36,40,41,64,116,144,164,180,320])]
noncomputable abbrev tb26:Sems:=tabS [(i_iModel,e_iModel),(i_iRsv,e_iRsv),(i_iDeepIn,e_iDeepIn),(i_itk,e_itk),(i_InsHd,e_InsHd),(i_ixGt,e_ixGt),(i_InsRm,e_InsRm)]
theorem pre_iEmk (m:Ml) (up:Hd) (h:Hd) (b:Bool) (n:Nat):body prog tb26 kp_iEmk n F_iEmk [aR m.cs,aR up.cs,aR h.cs,aB b]=(entK ok_iModel ea_iModel (f_iModel) [(wMl m)] fun (r1:Ml)=>let q2:=T.arr 11 r1.2.length (eL 11 Rm.cs r1.2).fn;let q5:=T.arr 11 r1.2.length (cutT 0 r1.2.length (eL 11 Rm.cs r1.2).fn);gl r1.2.length<|gl r1.3.length<|bif !bif up.1 == 0 then bif up.2 == 0 then true else false else false then entK ok_iRsv ea_iRsv (f_iRsv) [(wMl m),(wHd up)] fun (r2:Int × Int)=>let q1:=atL Rm.cs r1.2 (0+r2.1.toNat) (4+0);let q3:=setF (0+r2.1.toNat) 4 T.hole (eL 11 Rm.cs r1.2).fn;bif r2.2 != 0 then gl r1.2.length<|gl r1.3.length<|gl r1.2.length<|gl r1.3.length<|some ([(oR (Ml.cs r1)),(false,[.tr true (T.int i64 r2.2)])],[(false,[]),(false,[]),(false,[]),(false,[])]) else entK ok_iDeepIn ea_iDeepIn (f_iDeepIn) [(wMl m),(wHd up)] fun (r3:Int)=>bif decide (4≤r3) then gl r1.2.length<|gl r1.3.length<|gl r1.2.length<|gl r1.3.length<|some ([(oR (Ml.cs r1)),(false,[.tr true (T.int i64 3)])],[(false,[]),(false,[]),(false,[]),(false,[])]) else bif !b then gl r1.2.length<|gl r1.3.length<|gl r1.2.length<|gl r1.3.length<|some ([(oR (Ml.cs r1)),(false,[.tr true (T.int i64 4)])],[(false,[]),(false,[]),(false,[]),(false,[])]) else entK ok_iTakenBy ea_iTakenBy (f_iTakenBy) [(wMl m)] fun (r4:Int)=>bif decide (m.c.1 < i64.wrap (r4+1)) then gl r1.2.length<|gl r1.3.length<|gl r1.2.length<|gl r1.3.length<|some ([(oR (Ml.cs r1)),(false,[.tr true (T.int i64 5)])],[(false,[]),(false,[]),(false,[]),(false,[])]) else bif decide (0≤r2.1) then gd (decide (0≤r2.1)&&(r2.1.toNat.blt r1.2.length&&true))<|gd ((0+r2.1.toNat).blt r1.2.length&&true&&(q1.isArr&&q1.wd.beq 2))<|gd ((0+r2.1.toNat).blt r1.2.length&&true&&true&&(q2.get [0+r2.1.toNat,4+0]).isArr)<|gd (q1.ln.ble (q2.get [0+r2.1.toNat,4+0]).ln&&Nat.beq 2 (q2.get [0+r2.1.toNat,4+0]).wd)<|entK ok_InsHd ea_InsHd (f_InsHd) [(3,false,[C.tr true (T.arr 2 q1.ln (q2.get [0+r2.1.toNat,4+0]).fn)]),(0,false,[C.tr false (T.int i64 0)]),(3,false,[C.tr true (T.arr 2 1 (rowsT [[T.int i64 h.1,T.int i64 h.2]]))])] fun (r5:List Hd)=>let q0:=T.arr 2 r5.length (eL 2 Hd.cs r5).fn;let q4:=setF (0+r2.1.toNat) 4 q0 q3;gd (decide (0≤r2.1)&&(r2.1.toNat.blt r1.2.length&&true))<|gl r5.length<|gd ((0+r2.1.toNat).blt r1.2.length&&true&&true)<|gd ((0+r1.2.length).ble r1.2.length)<|entK ok_ixGt ea_ixGt (f_ixGt) [(0,false,[C.tr false (T.arr 11 r1.2.length (cutT 0 r1.2.length q4))]),(0,false,[C.fn 117 [Pt.pim 2 (pimF [T.int i64 h.1,T.int i64 h.2])]])] fun (r6:Int)=>bif decide (r6 < 0) then gl r1.2.length<|entK ok_InsRm ea_InsRm (f_InsRm) [(3,false,[C.tr true (T.arr 11 r1.2.length q4)]),(0,false,[C.tr false (T.int i64 (↑r1.2.length:Int))]),(3,false,[C.tr true (T.arr 11 1 (rowsT [[T.int i64 h.1,T.int i64 h.2,T.int i64 up.1,T.int i64 up.2,T.arr 2 0 fun x x_1=>T.hole,T.int i64 0,T.int i64 1,T.bool true,T.int i64 0,T.arr 1 0 fun x x_1=>T.hole,T.arr 1 0 fun x x_1=>T.hole]]))])] fun (r7:List Rm)=>gl r7.length<|gl r7.length<|gl r1.3.length<|gl r7.length<|gl r1.3.length<|some ([(true,[.tr true (T.int i64 r1.c.1),.tr true (T.int i64 r1.c.2),.tr true (T.int i64 r1.c.3),.tr true (T.int i64 r1.c.4),.tr true (T.int i64 r1.c.5),.tr true (T.int i64 r1.c.6),.tr true (.arr (11) (r7.length) ((eL 11 Rm.cs r7).fn)),.tr true (.arr (1) (r1.3.length) ((eL 1 rowI r1.3).fn))]),(false,[.tr true (T.int i64 0)])],[(false,[]),(false,[]),(false,[]),(false,[])]) else gl r1.2.length<|entK ok_InsRm ea_InsRm (f_InsRm) [(3,false,[C.tr true (T.arr 11 r1.2.length q4)]),(0,false,[C.tr false (T.int i64 r6)]),(3,false,[C.tr true (T.arr 11 1 (rowsT [[T.int i64 h.1,T.int i64 h.2,T.int i64 up.1,T.int i64 up.2,T.arr 2 0 fun x x_1=>T.hole,T.int i64 0,T.int i64 1,T.bool true,T.int i64 0,T.arr 1 0 fun x x_1=>T.hole,T.arr 1 0 fun x x_1=>T.hole]]))])] fun (r8:List Rm)=>gl r8.length<|gl r8.length<|gl r1.3.length<|gl r8.length<|gl r1.3.length<|some ([(true,[.tr true (T.int i64 r1.c.1),.tr true (T.int i64 r1.c.2),.tr true (T.int i64 r1.c.3),.tr true (T.int i64 r1.c.4),.tr true (T.int i64 r1.c.5),.tr true (T.int i64 r1.c.6),.tr true (.arr (11) (r8.length) ((eL 11 Rm.cs r8).fn)),.tr true (.arr (1) (r1.3.length) ((eL 1 rowI r1.3).fn))]),(false,[.tr true (T.int i64 0)])],[(false,[]),(false,[]),(false,[]),(false,[])]) else gd ((0+r1.2.length).ble r1.2.length)<|entK ok_ixGt ea_ixGt (f_ixGt) [(0,false,[C.tr false q5]),(0,false,[C.fn 117 [Pt.pim 2 (pimF [T.int i64 h.1,T.int i64 h.2])]])] fun (r9:Int)=>bif decide (r9 < 0) then gl r1.2.length<|entK ok_InsRm ea_InsRm (f_InsRm) [(3,false,[C.tr true q2]),(0,false,[C.tr false (T.int i64 (↑r1.2.length:Int))]),(3,false,[C.tr true (T.arr 11 1 (rowsT [[T.int i64 h.1,T.int i64 h.2,T.int i64 up.1,T.int i64 up.2,T.arr 2 0 fun x x_1=>T.hole,T.int i64 0,T.int i64 1,T.bool true,T.int i64 0,T.arr 1 0 fun x x_1=>T.hole,T.arr 1 0 fun x x_1=>T.hole]]))])] fun (r10:List Rm)=>gl r10.length<|gl r10.length<|gl r1.3.length<|gl r10.length<|gl r1.3.length<|some ([(true,[.tr true (T.int i64 r1.c.1),.tr true (T.int i64 r1.c.2),.tr true (T.int i64 r1.c.3),.tr true (T.int i64 r1.c.4),.tr true (T.int i64 r1.c.5),.tr true (T.int i64 r1.c.6),.tr true (.arr (11) (r10.length) ((eL 11 Rm.cs r10).fn)),.tr true (.arr (1) (r1.3.length) ((eL 1 rowI r1.3).fn))]),(false,[.tr true (T.int i64 0)])],[(false,[]),(false,[]),(false,[]),(false,[])]) else gl r1.2.length<|entK ok_InsRm ea_InsRm (f_InsRm) [(3,false,[C.tr true q2]),(0,false,[C.tr false (T.int i64 r9)]),(3,false,[C.tr true (T.arr 11 1 (rowsT [[T.int i64 h.1,T.int i64 h.2,T.int i64 up.1,T.int i64 up.2,T.arr 2 0 fun x x_1=>T.hole,T.int i64 0,T.int i64 1,T.bool true,T.int i64 0,T.arr 1 0 fun x x_1=>T.hole,T.arr 1 0 fun x x_1=>T.hole]]))])] fun (r11:List Rm)=>gl r11.length<|gl r11.length<|gl r1.3.length<|gl r11.length<|gl r1.3.length<|some ([(true,[.tr true (T.int i64 r1.c.1),.tr true (T.int i64 r1.c.2),.tr true (T.int i64 r1.c.3),.tr true (T.int i64 r1.c.4),.tr true (T.int i64 r1.c.5),.tr true (T.int i64 r1.c.6),.tr true (.arr (11) (r11.length) ((eL 11 Rm.cs r11).fn)),.tr true (.arr (1) (r1.3.length) ((eL 1 rowI r1.3).fn))]),(false,[.tr true (T.int i64 0)])],[(false,[]),(false,[]),(false,[]),(false,[])]) else bif !b then gl r1.2.length<|gl r1.3.length<|gl r1.2.length<|gl r1.3.length<|some ([(oR (Ml.cs r1)),(false,[.tr true (T.int i64 4)])],[(false,[]),(false,[]),(false,[]),(false,[])]) else entK ok_iTakenBy ea_iTakenBy (f_iTakenBy) [(wMl m)] fun (r12:Int)=>bif decide (m.c.1 < i64.wrap (r12+1)) then gl r1.2.length<|gl r1.3.length<|gl r1.2.length<|gl r1.3.length<|some ([(oR (Ml.cs r1)),(false,[.tr true (T.int i64 5)])],[(false,[]),(false,[]),(false,[]),(false,[])]) else gd ((0+r1.2.length).ble r1.2.length)<|entK ok_ixGt ea_ixGt (f_ixGt) [(0,false,[C.tr false q5]),(0,false,[C.fn 117 [Pt.pim 2 (pimF [T.int i64 h.1,T.int i64 h.2])]])] fun (r13:Int)=>bif decide (r13 < 0) then gl r1.2.length<|entK ok_InsRm ea_InsRm (f_InsRm) [(3,false,[C.tr true q2]),(0,false,[C.tr false (T.int i64 (↑r1.2.length:Int))]),(3,false,[C.tr true (T.arr 11 1 (rowsT [[T.int i64 h.1,T.int i64 h.2,T.int i64 up.1,T.int i64 up.2,T.arr 2 0 fun x x_1=>T.hole,T.int i64 0,T.int i64 1,T.bool true,T.int i64 0,T.arr 1 0 fun x x_1=>T.hole,T.arr 1 0 fun x x_1=>T.hole]]))])] fun (r14:List Rm)=>gl r14.length<|gl r14.length<|gl r1.3.length<|gl r14.length<|gl r1.3.length<|some ([(true,[.tr true (T.int i64 r1.c.1),.tr true (T.int i64 r1.c.2),.tr true (T.int i64 r1.c.3),.tr true (T.int i64 r1.c.4),.tr true (T.int i64 r1.c.5),.tr true (T.int i64 r1.c.6),.tr true (.arr (11) (r14.length) ((eL 11 Rm.cs r14).fn)),.tr true (.arr (1) (r1.3.length) ((eL 1 rowI r1.3).fn))]),(false,[.tr true (T.int i64 0)])],[(false,[]),(false,[]),(false,[]),(false,[])]) else gl r1.2.length<|entK ok_InsRm ea_InsRm (f_InsRm) [(3,false,[C.tr true q2]),(0,false,[C.tr false (T.int i64 r13)]),(3,false,[C.tr true (T.arr 11 1 (rowsT [[T.int i64 h.1,T.int i64 h.2,T.int i64 up.1,T.int i64 up.2,T.arr 2 0 fun x x_1=>T.hole,T.int i64 0,T.int i64 1,T.bool true,T.int i64 0,T.arr 1 0 fun x x_1=>T.hole,T.arr 1 0 fun x x_1=>T.hole]]))])] fun (r15:List Rm)=>gl r15.length<|gl r15.length<|gl r1.3.length<|gl r15.length<|gl r1.3.length<|some ([(true,[.tr true (T.int i64 r1.c.1),.tr true (T.int i64 r1.c.2),.tr true (T.int i64 r1.c.3),.tr true (T.int i64 r1.c.4),.tr true (T.int i64 r1.c.5),.tr true (T.int i64 r1.c.6),.tr true (.arr (11) (r15.length) ((eL 11 Rm.cs r15).fn)),.tr true (.arr (1) (r1.3.length) ((eL 1 rowI r1.3).fn))]),(false,[.tr true (T.int i64 0)])],[(false,[]),(false,[]),(false,[]),(false,[])])):=by kernel_rfl
end Go.Mach.F
