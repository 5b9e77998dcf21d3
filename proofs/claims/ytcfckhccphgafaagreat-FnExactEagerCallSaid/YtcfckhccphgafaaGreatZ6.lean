/- Lemmas and definitions of the proof (Bk Bl Eb Da Db Dd De Df Bo Qc Qd Qx Qy Qe). Conditions: none. -/
import Derived.Test.YtcfckhccphgafaaGreatZ5
set_option linter.all false
namespace Go.Mach.F
open Go Go.Mach Go.Proofs.Tryz Go.IntKind
theorem gtx_spec (l:List Rm) (h:Hd):∃ p:Nat,insP l h=(p:Int)∧p≤l.length∧(∀ i,i < p→¬ h.slot < (l.getD i zRm).h.slot)∧(p < l.length→h.slot < (l.getD p zRm).h.slot):=by
 unfold insP gtx
 cases hf:(List.range l.length).find? (fun i=>decide (h.slot < (l.getD i zRm).h.slot)) with
 | none =>
  refine ⟨l.length,by simp,Nat.le_refl _,fun i hi=>?_,fun e=>absurd e (Nat.lt_irrefl _)⟩
  have:=List.find?_eq_none.1 hf i (List.mem_range.2 hi)
  simpa using this
 | some i =>
  obtain ⟨h1,h2,h3⟩:=List.find?_range_eq_some.1 hf
  have hi:=List.mem_range.1 h2
  refine ⟨i,?_,by omega,fun j hj=>?_,fun _=>of_decide_eq_true h1⟩
  ·dsimp only
   rw [decide_eq_false (by omega),cond_false]
  ·have:=h3 j hj
   simpa using this
theorem insP_in (l:List Rm) (h:Hd):0≤insP l h∧insP l h≤(l.length:Int):=by
 obtain ⟨p,e,h1,_⟩:=gtx_spec l h
 rw [e]
 omega
theorem body_ixGt (l:List Rm) (h:Hd) (h0:ok_ixGt (l,h)):body prog (tabS [(i_gtS,e_gtS)]) kp_ixGt (l.length+1) F_ixGt (ea_ixGt (l,h))=some (erI 2 (f_ixGt (l,h))):=by
 have hlm:=lm
 have hl:l.length≤LM:=h0
 unfold ea_ixGt f_ixGt
 dsimp only
 rw [pre_ixGt]
 have hst:st_ixGt_1 l h 0=(fun i:Nat=>st_ixGt_1 l h (i:Nat)) 0:=rfl
 rw [hst,forExit l.length (fun i:Nat=>st_ixGt_1 l h (i:Nat)) (ex_ixGt_1_2 l h l.length) 0 (fun i=>decide (h.slot < (l.getD i zRm).h.slot)) .ret (fun e=>by cases e) (fun i:Nat=>ex_ixGt_1_1 l h (i:Nat)) (fun i K hi=>?_) (fun K=>?_) _ (Nat.le_refl _)]
 ·unfold gtx
  cases (List.range l.length).find? (fun i=>decide (h.slot < (l.getD i zRm).h.slot)) with
  | none=>exact (post_ixGt_1_2 l h _ _).trans rfl
  | some i=>exact (post_ixGt_1_1 l h _ _).trans rfl
 ·have hx:=List.getElem?_eq_getElem hi
  obtain ⟨x,hxe⟩:∃ x,x=l[i]:=⟨_,rfl⟩
  rw [← hxe] at hx
  have hg:l.getD i zRm=x:=by rw [List.getD_eq_getElem?_getD,hx];rfl
  have w1:i64.wrap ((i:Int)+1)=((i+1:Nat):Int):=wrapS (by omega)
  rw [round_ixGt_1,hg]
  simp (implicitDefEqProofs:=false) only [rsx0,hi,atL_of hx,Rm.cs,w1]
 ·rw [round_ixGt_1]
  simp (implicitDefEqProofs:=false) only [lt_d,Nat.lt_irrefl,decide_false,cond_false]
theorem s_ixGt:EntOk prog i_ixGt e_ixGt:=ent_ok ea_ixGt_inj fun x hx =>
 body_sound (φ:=(tabS [(i_gtS,e_gtS)])) (tabS_cons s_gtS tabS_nil) mixed (kp:=kp_ixGt) (n:=x.1.length+1) func116 (c:=bodyOf F_ixGt) (by kernel_rfl) (body_ixGt x.1 x.2 hx) (name_ok (by kernel_rfl))
theorem new_row (h up:Hd):rowsT [[T.int i64 h.slot,T.int i64 h.gen,T.int i64 up.slot,T.int i64 up.gen,T.arr 2 0 fun _ _=>T.hole,T.int i64 0,T.int i64 1,T.bool true,T.int i64 0,T.arr 1 0 fun _ _=>T.hole,T.arr 1 0 fun _ _=>T.hole]]=atL Rm.cs [newR h up]:=by
 rw [← rows1 Rm.cs]
 rfl
theorem kid_row (h:Hd):rowsT [[T.int i64 h.slot,T.int i64 h.gen]]=atL Hd.cs [h]:=by
 rw [← rows1 Hd.cs]
 rfl
theorem hd0 (up:Hd):(bif up.slot == 0 then bif up.gen == 0 then true else false else false)=decide (up=⟨0,0⟩):=by
 rcases up with ⟨a,b⟩
 rw [int_eq,int_eq]
 by_cases h1:a=0 <;> by_cases h2:b=0 <;> simp [h1,h2]
theorem d4 (n:Nat):decide ((4:Int)≤(n:Int))=decide (4≤n):=by
 by_cases h:4≤n
 ·rw [decide_eq_true h,decide_eq_true (by omega)]
 ·rw [decide_eq_false h,decide_eq_false (by omega)]
theorem kidR_len (l:List Rm) (k:Int) (h:Hd):(kidR l k h).length=l.length:=by
 unfold kidR
 cases decide (0≤k) <;> simp
theorem body_iEmk (m:Ml) (up h:Hd) (b:Bool) (n:Nat) (h0:ok_iEmk (m,up,h,b)):body prog tb26 kp_iEmk n F_iEmk (ea_iEmk (m,up,h,b))=some ([oR (f_iEmk (m,up,h,b)).1.cs,oT (.int .i64 (f_iEmk (m,up,h,b)).2)],[nul,nul,nul,nul]):=by
 have hlm:=lm
 obtain ⟨h1,h2⟩:ok_RmS m.rooms∧ok_LI m.log:=h0
 have hl:m.rooms.length≤LM:=h1.1
 have c0:ok_iModel m:=⟨h1,h2⟩
 have c1:ok_iRsv (m,up):=hl
 have c2:ok_iTakenBy m:=hl
 have c3:ok_iDeepIn (m,up):=hl
 have hnew:=new_row h up
 unfold ea_iEmk f_iEmk emkM emkT
 dsimp only
 rw [pre_iEmk]
 try simp (implicitDefEqProofs:=false) only [eL_T,Ml.cs,Hd.cs,hd0]
 rw [entK_of (dm_iModel c0) (iv_iModel c0)]
 simp (implicitDefEqProofs:=false) only [d_iModel,rsx0,ble_d,Nat.le_refl]
 by_cases eu:up=⟨0,0⟩
 ·have hkr:kidR m.rooms (-1) h=m.rooms:=rfl
  simp (implicitDefEqProofs:=false) only [decide_eq_true eu,Bool.not_true,cond_true,cond_false]
  cases b with
  | false=>rfl
  | true =>
   simp (implicitDefEqProofs:=false) only [Bool.not_true,cond_true,cond_false]
   rw [entK_of (dm_iTakenBy c2) (iv_iTakenBy c2)]
   simp (implicitDefEqProofs:=false) only [d_iTakenBy]
   by_cases a5:m.c.chunks < i64.wrap (tkn m.rooms+1)
   ·simp (implicitDefEqProofs:=false) only [a5,decide_true,cond_true]
    rfl
   simp (implicitDefEqProofs:=false) only [a5,decide_false,cond_false,cut_all]
   have c7:ok_ixGt (m.rooms,h):=hl
   have c8:ok_InsRm (m.rooms,insP (m.rooms) h,newR h up):=⟨(insP_in _ _).1,(insP_in _ _).2,hl⟩
   rw [entK_of (dm_ixGt c7) (iv_ixGt c7)]
   simp (implicitDefEqProofs:=false) only [d_ixGt,rsx0,ble_d,Nat.le_refl,hnew]
   have hp:insP (m.rooms) h=bif decide (gtx (m.rooms) h < 0) then (((m.rooms).length:Nat):Int) else gtx (m.rooms) h:=rfl
   by_cases a7:gtx (m.rooms) h < 0
   ·rw [decide_eq_true a7,cond_true] at hp
    rw [hp] at c8
    simp (implicitDefEqProofs:=false) only [a7,decide_true,cond_true,List.length_set] at c8 ⊢
    rw [entK_of (dm_InsRm c8) (iv_InsRm c8)]
    simp (implicitDefEqProofs:=false) only [d_InsRm,rsx0,ble_d,Nat.le_refl,putM,hkr,hp,List.length_set]
    rfl
   ·rw [decide_eq_false a7,cond_false] at hp
    rw [hp] at c8
    simp (implicitDefEqProofs:=false) only [a7,decide_false,cond_false,List.length_set] at c8 ⊢
    rw [entK_of (dm_InsRm c8) (iv_InsRm c8)]
    simp (implicitDefEqProofs:=false) only [d_InsRm,rsx0,ble_d,Nat.le_refl,putM,hkr,hp]
    rfl
 ·simp (implicitDefEqProofs:=false) only [decide_eq_false eu,Bool.not_false,cond_true,cond_false]
  rw [entK_of (dm_iRsv c1) (iv_iRsv c1)]
  simp (implicitDefEqProofs:=false) only [d_iRsv,int_ne]
  by_cases e:(rsv m up).2=0
  case neg =>
   simp (implicitDefEqProofs:=false) only [e,decide_false,Bool.not_false,cond_true,cond_false]
   rfl
  have hk:=rsv_ok e
  have hx:=getD_get hk.2
  have e0:=hk.1
  have e1:=hk.2
  simp (implicitDefEqProofs:=false) only [e,decide_true,Bool.not_true,cond_true,cond_false]
  rw [entK_of (dm_iDeepIn c3) (iv_iDeepIn c3)]
  simp (implicitDefEqProofs:=false) only [d_iDeepIn,d4 (dpn m.rooms m.rooms.length up)]
  by_cases a4:4≤dpn m.rooms m.rooms.length up
  ·simp (implicitDefEqProofs:=false) only [a4,decide_true,cond_true]
   rfl
  simp (implicitDefEqProofs:=false) only [a4,decide_false,cond_false]
  cases b with
  | false=>rfl
  | true =>
   simp (implicitDefEqProofs:=false) only [Bool.not_true,cond_true,cond_false]
   rw [entK_of (dm_iTakenBy c2) (iv_iTakenBy c2)]
   simp (implicitDefEqProofs:=false) only [d_iTakenBy]
   by_cases a5:m.c.chunks < i64.wrap (tkn m.rooms+1)
   ·simp (implicitDefEqProofs:=false) only [a5,decide_true,cond_true]
    rfl
   obtain ⟨x,hxe⟩:∃ x,x=m.rooms.getD (rsv m up).1.toNat zRm:=⟨_,rfl⟩
   have hkr:kidR m.rooms (rsv m up).1 h=m.rooms.set (rsv m up).1.toNat { x with kids:=h :: x.kids }:=by
    unfold kidR
    rw [decide_eq_true e0,cond_true,← hxe]
   rw [← hxe] at hx
   have hy:=h1.2 _ (List.mem_of_getElem? hx)
   have c6:ok_InsHd (x.kids,0,h):=⟨Int.le_refl _,Int.natCast_nonneg _,hy.1.1⟩
   have hik:insL x.kids 0 h=h :: x.kids:=rfl
   simp (implicitDefEqProofs:=false) only [rsx0,a5,decide_false,cond_false,e0,e1,Nat.add_zero,atL_of hx,Rm.cs,T.get,ble_d,Nat.le_refl,Nat.beq_refl,kid_row]
   rw [entK_of (dm_InsHd c6) (iv_InsHd c6)]
   have h9:setF (rsv m up).1.toNat 4 (T.arr 2 (h :: x.kids).length (atL Hd.cs (h :: x.kids))) (setF (rsv m up).1.toNat 4 T.hole (atL Rm.cs m.rooms))=atL Rm.cs (m.rooms.set (rsv m up).1.toNat { x with kids:=h :: x.kids }):=by
    rw [setF_setF]
    exact setF_list hx rfl (by decide:4 < 11)
   have hsl:m.rooms.length=(m.rooms.set (rsv m up).1.toNat { x with kids:=h :: x.kids }).length:=List.length_set.symm
   have hl2:(m.rooms.set (rsv m up).1.toNat { x with kids:=h :: x.kids }).length≤LM:=by rw [← hsl];exact hl
   simp (implicitDefEqProofs:=false) only [d_InsHd,hik,rsx0,e0,e1,ble_d,Nat.le_refl,h9]
   obtain ⟨l',hl'⟩:∃ l',l'=m.rooms.set (rsv m up).1.toNat { x with kids:=h :: x.kids }:=⟨_,rfl⟩
   rw [← hl'] at hkr hsl hl2 ⊢
   rw [hsl,cut_all]
   have c7:ok_ixGt (l',h):=hl2
   have c8:ok_InsRm (l',insP (l') h,newR h up):=⟨(insP_in _ _).1,(insP_in _ _).2,hl2⟩
   rw [entK_of (dm_ixGt c7) (iv_ixGt c7)]
   simp (implicitDefEqProofs:=false) only [d_ixGt,rsx0,ble_d,Nat.le_refl,hnew]
   have hp:insP (l') h=bif decide (gtx (l') h < 0) then (((l').length:Nat):Int) else gtx (l') h:=rfl
   by_cases a7:gtx (l') h < 0
   ·rw [decide_eq_true a7,cond_true] at hp
    rw [hp] at c8
    simp (implicitDefEqProofs:=false) only [a7,decide_true,cond_true,List.length_set] at c8 ⊢
    rw [entK_of (dm_InsRm c8) (iv_InsRm c8)]
    simp (implicitDefEqProofs:=false) only [d_InsRm,rsx0,ble_d,Nat.le_refl,putM,hkr,hp,List.length_set]
    rfl
   ·rw [decide_eq_false a7,cond_false] at hp
    rw [hp] at c8
    simp (implicitDefEqProofs:=false) only [a7,decide_false,cond_false,List.length_set] at c8 ⊢
    rw [entK_of (dm_InsRm c8) (iv_InsRm c8)]
    simp (implicitDefEqProofs:=false) only [d_InsRm,rsx0,ble_d,Nat.le_refl,putM,hkr,hp]
    rfl
theorem s_iEmk:EntOk prog i_iEmk e_iEmk:=ent_ok ea_iEmk_inj fun x hx =>
 body_sound (φ:=tb26) (tabS_cons s_iModel (tabS_cons s_iRsv (tabS_cons s_iDeepIn (tabS_cons s_itk (tabS_cons s_InsHd (tabS_cons s_ixGt (tabS_cons s_InsRm tabS_nil))))))) mixed (kp:=kp_iEmk) (n:=0) func58 (c:=bodyOf F_iEmk) (by kernel_rfl) (body_iEmk x.1 x.2.1 x.2.2.1 x.2.2.2 (0) hx) (name_ok (by kernel_rfl))
end Go.Mach.F
namespace Go.Mach.F
open Go Go.Mach Go.Proofs.Tryz Go.IntKind
--=set_option maxRecDepth 100000
def vR (cs:List T):Arg:=(3,(true,cs.map fun t=>.tr true t))
theorem vR_inj {cs cs':List T} (h:vR cs=vR cs'):cs=cs':=by
 have e:=congrArg (fun a:Arg=>a.2.2) h
 exact (List.map_inj_right (fun x y h=>by cases h;rfl)).1 e
def ok_sPut (y:List Rm × Rm):Prop:=y.1.length≤LM
def ea_sPut (y:List Rm × Rm):List Arg:=[vT (eL 11 Rm.cs y.1),vR y.2.cs]
def f_sPut (y:List Rm × Rm):List Rm:=insL y.1 (insP y.1 y.2.h) y.2
noncomputable def e_sPut:Ent:=ent [3,3] ok_sPut ea_sPut (fun l=>([oT (eL 11 Rm.cs l)],[nul,nul])) f_sPut
theorem ea_sPut_inj (x y:List Rm × Rm) (h:ea_sPut x=ea_sPut y):x=y:=by
 obtain ⟨l1,x1⟩:=x
 obtain ⟨l2,x2⟩:=y
 simp only [ea_sPut,List.cons.injEq,and_true,true_and] at h
 obtain ⟨e0,e1⟩:=h
 obtain rfl:=eL_inj Rm.cs_inj (vT_inj e0)
 obtain rfl:=Rm.cs_ext (vR_inj e1)
 rfl
theorem dm_sPut {l:List Rm} {r:Rm} (h:ok_sPut (l,r)):dom ok_sPut ea_sPut [(3,false,[C.tr true (T.arr 11 l.length (atL Rm.cs l))]),(3,true,[C.tr true (T.int i64 r.h.slot),C.tr true (T.int i64 r.h.gen),C.tr true (T.int i64 r.up.slot),C.tr true (T.int i64 r.up.gen),C.tr true (T.arr 2 r.kids.length (atL Hd.cs r.kids)),C.tr true (T.int i64 r.ep),C.tr true (T.int i64 r.chunks),C.tr true (T.bool r.cur),C.tr true (T.int i64 r.bump),C.tr true (T.arr 1 r.things.length (atL Sf.cs r.things)),C.tr true (T.arr 1 r.tags.length (atL rowI r.tags))])]=true:=dom_ea (ea:=ea_sPut) (x:=(l,r)) h
theorem iv_sPut {l:List Rm} {r:Rm} (h:ok_sPut (l,r)):inv ok_sPut ea_sPut [(3,false,[C.tr true (T.arr 11 l.length (atL Rm.cs l))]),(3,true,[C.tr true (T.int i64 r.h.slot),C.tr true (T.int i64 r.h.gen),C.tr true (T.int i64 r.up.slot),C.tr true (T.int i64 r.up.gen),C.tr true (T.arr 2 r.kids.length (atL Hd.cs r.kids)),C.tr true (T.int i64 r.ep),C.tr true (T.int i64 r.chunks),C.tr true (T.bool r.cur),C.tr true (T.int i64 r.bump),C.tr true (T.arr 1 r.things.length (atL Sf.cs r.things)),C.tr true (T.arr 1 r.tags.length (atL rowI r.tags))])]=(l,r):=inv_ea ea_sPut_inj (x:=(l,r)) h
theorem d_sPut (l:List Rm) (r:Rm):f_sPut (l,r)=insL l (insP l r.h) r:=rfl
def i_sPut:Nat:=100
noncomputable abbrev F_sPut:Func:=f100
def kp_sPut:List (Nat × List Nat):=[(0,[0,12,13,2,6]),(1,[0,12,13,20,2,6]),(2,[0,12,13,20,84,2,6]),(3,[0,12,13,20,2,6]),(4,[16,2,6])]
def ts_sPut:List Nat:=[3,3]
def st_sPut_1 (l:List Rm) (r:Rm) (x20:Int):St:=[(0,⟨z0,[(false,[.tr true (eL 11 Rm.cs l)])]⟩),(12,⟨z0,[(false,[(C.pt (Pt.ptr 13 0 [] 11 0 0))])]⟩),(13,⟨z0,[(oR (Rm.cs r))]⟩),(20,⟨z0,[(false,[.tr true (T.int i64 x20)])]⟩)]
def ex_sPut_1_1 (l:List Rm) (r:Rm) (x20:Int):St:=[(0,⟨z0,[(false,[.tr true (eL 11 Rm.cs l)])]⟩),(12,⟨z0,[(false,[(C.pt (Pt.ptr 13 0 [] 11 0 0))])]⟩),(13,⟨z0,[(oR (Rm.cs r))]⟩),(20,⟨z0,[(false,[.tr true (T.int i64 x20)])]⟩),(84,⟨z0,[]⟩)]
theorem round_sPut_1 (l:List Rm) (r:Rm) (x20:Int) (n:Nat) (K:Ex→St→Res):roundAt prog (tabS []) kp_sPut F_sPut [1,1,0,0] n (st_sPut_1 l r x20) K=(bif decide (x20 < (↑l.length:Int)) then gd (decide (0≤x20)&&(x20.toNat.blt l.length&&true))<|gd ((0+x20.toNat).blt l.length&&true&&T.isI i64 (atL Rm.cs l (0+x20.toNat) (0+0+0)))<|bif decide ((atL Rm.cs l (0+x20.toNat) (0+0)).toI≤r.h.1) then K .normal (st_sPut_1 l r (i64.wrap (x20+1))) else K (.exit 0) (ex_sPut_1_1 l r x20) else K (.exit 0) (ex_sPut_1_1 l r x20)):=by kernel_rfl
theorem post_sPut_1_1 (l:List Rm) (r:Rm) (x20:Int) (n:Nat):contAt prog (tabS []) kp_sPut F_sPut ts_sPut [1,1,0,0] [] n (.exit 0) (ex_sPut_1_1 l r x20)=(gd (decide (0≤x20)&&decide (x20≤(↑l.length:Int)))<|gd ((0+0+(x20.toNat - 0)).ble l.length&&true)<|gd (((0+(x20.toNat - 0)) * 136).ble 70368744177664&&(0+(x20.toNat - 0)).ble 70368744177664)<|gl r.3.length<|gl r.8.length<|gl r.9.length<|gd ((0+(x20.toNat - 0)).ble (0+(x20.toNat - 0))&&true)<|gd (((0+(x20.toNat - 0)+1) * 136).ble 70368744177664&&(0+(x20.toNat - 0)+1).ble 70368744177664)<|gd (decide (0≤x20)&&(decide (x20≤(↑l.length:Int))&&decide ((↑l.length:Int)≤(↑l.length:Int))))<|gd ((0+(x20.toNat - 0)+1).ble (0+(x20.toNat - 0)+1)&&true)<|gd ((0+x20.toNat+((↑l.length:Int).toNat - x20.toNat)).ble l.length&&true)<|gd (((0+(x20.toNat - 0)+1+((↑l.length:Int).toNat - x20.toNat)) * 136).ble 70368744177664&&(0+(x20.toNat - 0)+1+((↑l.length:Int).toNat - x20.toNat)).ble 70368744177664)<|gd ((0+(x20.toNat - 0)+1+((↑l.length:Int).toNat - x20.toNat)).ble (0+(x20.toNat - 0)+1+((↑l.length:Int).toNat - x20.toNat))&&true)<|gd ((0+(x20.toNat - 0)+1+((↑l.length:Int).toNat - x20.toNat)).ble (0+(x20.toNat - 0)+1+((↑l.length:Int).toNat - x20.toNat))&&true)<|some ([(false,[.tr true (.arr (11) (0+(x20.toNat - 0)+1+((↑l.length:Int).toNat - x20.toNat)) (appF (0+(x20.toNat - 0)+1) (appF (0+(x20.toNat - 0)) (appF 0 (rowsT []) (shF 0 (eL 11 Rm.cs l).fn)) (shF 0 (rowsT [[T.int i64 r.h.1,T.int i64 r.h.2,T.int i64 r.up.1,T.int i64 r.up.2,T.arr 2 r.3.length (eL 2 Hd.cs r.3).fn,T.int i64 r.4,T.int i64 r.5,T.bool r.6,T.int i64 r.7,T.arr 1 r.8.length (eL 1 Sf.cs r.8).fn,T.arr 1 r.9.length (eL 1 rowI r.9).fn]]))) (shF (0+x20.toNat) (movF 0 (x20.toNat - 0) (eL 11 Rm.cs l).fn))))])],[(false,[]),(false,[])])):=by kernel_rfl
theorem pre_sPut (l:List Rm) (r:Rm) (n:Nat):body prog (tabS []) kp_sPut n F_sPut [vT (eL 11 Rm.cs l),vR r.cs]=(gl r.3.length<|gl r.8.length<|gl r.9.length<|loopAt prog (tabS []) kp_sPut F_sPut [1,1,0,0] n n (st_sPut_1 l r (0)) (contAt prog (tabS []) kp_sPut F_sPut ts_sPut [1,1,0,0] [] n)):=by kernel_rfl
def ok_sEmk (x:Ml × Hd × Hd × Bool):Prop:=ok_RmS x.1.rooms∧ok_LI x.1.log
def ea_sEmk (x:Ml × Hd × Hd × Bool):List Arg:=[aR x.1.cs,aR x.2.1.cs,aR x.2.2.1.cs,aB x.2.2.2]
def f_sEmk (x:Ml × Hd × Hd × Bool):Ml × Int:=emkM x.1 x.2.1 x.2.2.1 x.2.2.2
noncomputable def e_sEmk:Ent:=ent [] ok_sEmk ea_sEmk (fun (x:Ml × Int)=>([oR x.1.cs,oT (.int .i64 x.2)],[nul,nul,nul,nul])) f_sEmk
theorem ea_sEmk_inj (x y:Ml × Hd × Hd × Bool) (h:ea_sEmk x=ea_sEmk y):x=y:=by
 obtain ⟨m1,up1,h1,b1⟩:=x
 obtain ⟨m2,up2,h2,b2⟩:=y
 simp only [ea_sEmk,List.cons.injEq,and_true,true_and] at h
 obtain ⟨e0,e1,e2,e3⟩:=h
 obtain rfl:=Ml.cs_ext (aR_inj e0)
 obtain rfl:=Hd.cs_ext (aR_inj e1)
 obtain rfl:=Hd.cs_ext (aR_inj e2)
 obtain rfl:=aB_inj e3
 rfl
theorem dm_sEmk {m:Ml} {up:Hd} {h:Hd} {b:Bool} (h0:ok_sEmk (m,up,h,b)):dom ok_sEmk ea_sEmk [(wMl m),(wHd up),(wHd h),(0,false,[C.tr false (T.bool b)])]=true:=dom_ea (ea:=ea_sEmk) (x:=(m,up,h,b)) h0
theorem iv_sEmk {m:Ml} {up:Hd} {h:Hd} {b:Bool} (h0:ok_sEmk (m,up,h,b)):inv ok_sEmk ea_sEmk [(wMl m),(wHd up),(wHd h),(0,false,[C.tr false (T.bool b)])]=(m,up,h,b):=inv_ea ea_sEmk_inj (x:=(m,up,h,b)) h0
theorem d_sEmk (m:Ml) (up:Hd) (h:Hd) (b:Bool):f_sEmk (m,up,h,b)=emkM m up h b:=rfl
def i_sEmk:Nat:=44
noncomputable abbrev F_sEmk:Func:=f44
def kp_sEmk:List (Nat × List Nat):=[(0,[12,16,17,20,21,24,25,32,33,40,41,60,116,140,144,148,152,160,176,212,308]),(1,[12,16,17,20,21,24,25,32,33,40,41,60,116,140,144,148,152,160,176,212,308]),(2,[12,16,17,20,21,24,25,32,33,40,41,44,60,116,140,144,148,152,160,176,212,308]),(3,[12,16,17,20,21,24,25,32,33,40,41,44,48,60,116,140,144,148,152,160,176,212,308]),(4,[12,16,17,20,21,24,25,32,33,40,41,44,48,52,53,60,116,140,144,148,152,160,176,212,308]),(5,[12,16,17,20,21,24,25,32,33,40,41,44,48,60,76,116,140,144,148,152,160,176,212,308]),(6,[12,16,17,20,21,24,25,32,33,40,41,44,48,60,116,140,144,148,152,160,176,212,308]),(7,[12,16,17,20,21,24,25,32,33,40,41,44,48,60,104,116,140,144,148,152,160,176,212,308]),(8,[32,33,36,40,41,60,116,160,176,212,308]),(9,[12,16,17,20,21,24,25,32,33,40,41,44,60,116,124,160,176,212,308]),(10,[32,33,36,40,41,60,116,160,176,212,308]),(11,[16,17,20,21,24,25,32,33,40,41,44,60,116,160,164,176,212,308]),(12,[32,33,36,40,41,60,116,160,176,212,308]),(13,[20,21,24,25,32,33,40,41,44,60,116,160,176,180,212,308]),(14,[32,33,36,40,41,60,116,160,176,212,308]),(15,[20,21,24,25,32,33,40,41,44,60,116,160,176,212,220,308]),(16,[20,21,24,25,32,33,40,41,60,116,160,176,212,308]),(17,[32,33,40,41,60,116,160,176,212,308]),(18,[32,33,36,40,41,60,116,160,176,212,308])]
noncomputable abbrev tb27:Sems:=tabS [(i_sModel,e_sModel),(i_sRsv,e_sRsv),(i_sDeepIn,e_sDeepIn),(i_sTakenBy,e_sTakenBy),(i_sPut,e_sPut)]
theorem pre_sEmk (m:Ml) (up:Hd) (h:Hd) (b:Bool) (n:Nat):body prog tb27 kp_sEmk n F_sEmk [aR m.cs,aR up.cs,aR h.cs,aB b]=(entK ok_sModel ea_sModel (f_sModel) [(wMl m)] fun (r1:Ml)=>let q2:=T.arr 11 r1.2.length (eL 11 Rm.cs r1.2).fn;gl r1.2.length<|gl r1.3.length<|bif !bif up.1 == 0 then bif up.2 == 0 then true else false else false then entK ok_sRsv ea_sRsv (f_sRsv) [(wMl m),(wHd up)] fun (r2:Int × Int)=>let q0:=atL Rm.cs r1.2 (0+r2.1.toNat) 4;let q1:=atL Rm.cs r1.2 (0+r2.1.toNat) (4+0);let q3:=appF 1 (rowsT [[T.int i64 h.1,T.int i64 h.2]]) (plainF (cutT 0 q0.ln (q2.get [0+r2.1.toNat,4]).fn));let q4:=setF (0+r2.1.toNat) 4 (T.arr 2 (1+q0.ln) q3) (eL 11 Rm.cs r1.2).fn;bif r2.2 != 0 then gl r1.2.length<|gl r1.3.length<|gl r1.2.length<|gl r1.3.length<|some ([(oR (Ml.cs r1)),(false,[.tr true (T.int i64 r2.2)])],[(false,[]),(false,[]),(false,[]),(false,[])]) else bif decide (0≤r2.1) then entK ok_sDeepIn ea_sDeepIn (f_sDeepIn) [(wMl m),(wHd up)] fun (r3:Int)=>bif decide (4≤r3) then gl r1.2.length<|gl r1.3.length<|gl r1.2.length<|gl r1.3.length<|some ([(oR (Ml.cs r1)),(false,[.tr true (T.int i64 3)])],[(false,[]),(false,[]),(false,[]),(false,[])]) else bif !b then gl r1.2.length<|gl r1.3.length<|gl r1.2.length<|gl r1.3.length<|some ([(oR (Ml.cs r1)),(false,[.tr true (T.int i64 4)])],[(false,[]),(false,[]),(false,[]),(false,[])]) else entK ok_sTakenBy ea_sTakenBy (f_sTakenBy) [(wMl m)] fun (r4:Int)=>bif decide (m.c.1 < i64.wrap (r4+1)) then gl r1.2.length<|gl r1.3.length<|gl r1.2.length<|gl r1.3.length<|some ([(oR (Ml.cs r1)),(false,[.tr true (T.int i64 5)])],[(false,[]),(false,[]),(false,[]),(false,[])]) else bif decide (0≤r2.1) then gd (decide (0≤r2.1)&&(r2.1.toNat.blt r1.2.length&&true))<|gd ((0+r2.1.toNat).blt r1.2.length&&true&&(q1.isArr&&q1.wd.beq 2))<|gd ((0+r2.1.toNat).blt r1.2.length&&true&&true&&(q2.get [0+r2.1.toNat,4+0]).isArr)<|gd (Nat.beq 2 (q2.get [0+r2.1.toNat,4+0]).wd&&(0+q1.ln).ble (q2.get [0+r2.1.toNat,4+0]).ln)<|gd (((1+q1.ln) * 16).ble 70368744177664&&(1+q1.ln).ble 70368744177664)<|gd (decide (0≤r2.1)&&(r2.1.toNat.blt r1.2.length&&true))<|gd ((1+q1.ln).ble (1+q1.ln)&&true)<|gd ((0+r2.1.toNat).blt r1.2.length&&true&&true)<|gl r1.2.length<|entK ok_sPut ea_sPut (f_sPut) [(3,false,[C.tr true (T.arr 11 r1.2.length q4)]),(3,true,[C.tr true (T.int i64 h.1),C.tr true (T.int i64 h.2),C.tr true (T.int i64 up.1),C.tr true (T.int i64 up.2),C.tr true (T.arr 2 0 fun x x_1=>T.hole),C.tr true (T.int i64 0),C.tr true (T.int i64 1),C.tr true (T.bool true),C.tr true (T.int i64 0),C.tr true (T.arr 1 0 fun x x_1=>T.hole),C.tr true (T.arr 1 0 fun x x_1=>T.hole)])] fun (r5:List Rm)=>gl r5.length<|gl r5.length<|gl r1.3.length<|gl r5.length<|gl r1.3.length<|some ([(true,[.tr true (T.int i64 r1.c.1),.tr true (T.int i64 r1.c.2),.tr true (T.int i64 r1.c.3),.tr true (T.int i64 r1.c.4),.tr true (T.int i64 r1.c.5),.tr true (T.int i64 r1.c.6),.tr true (.arr (11) (r5.length) ((eL 11 Rm.cs r5).fn)),.tr true (.arr (1) (r1.3.length) ((eL 1 rowI r1.3).fn))]),(false,[.tr true (T.int i64 0)])],[(false,[]),(false,[]),(false,[]),(false,[])]) else gl r1.2.length<|entK ok_sPut ea_sPut (f_sPut) [(3,false,[C.tr true q2]),(3,true,[C.tr true (T.int i64 h.1),C.tr true (T.int i64 h.2),C.tr true (T.int i64 up.1),C.tr true (T.int i64 up.2),C.tr true (T.arr 2 0 fun x x_1=>T.hole),C.tr true (T.int i64 0),C.tr true (T.int i64 1),C.tr true (T.bool true),C.tr true (T.int i64 0),C.tr true (T.arr 1 0 fun x x_1=>T.hole),C.tr true (T.arr 1 0 fun x x_1=>T.hole)])] fun (r6:List Rm)=>gl r6.length<|gl r6.length<|gl r1.3.length<|gl r6.length<|gl r1.3.length<|some ([(true,[.tr true (T.int i64 r1.c.1),.tr true (T.int i64 r1.c.2),.tr true (T.int i64 r1.c.3),.tr true (T.int i64 r1.c.4),.tr true (T.int i64 r1.c.5),.tr true (T.int i64 r1.c.6),.tr true (.arr (11) (r6.length) ((eL 11 Rm.cs r6).fn)),.tr true (.arr (1) (r1.3.length) ((eL 1 rowI r1.3).fn))]),(false,[.tr true (T.int i64 0)])],[(false,[]),(false,[]),(false,[]),(false,[])]) else bif !b then gl r1.2.length<|gl r1.3.length<|gl r1.2.length<|gl r1.3.length<|some ([(oR (Ml.cs r1)),(false,[.tr true (T.int i64 4)])],[(false,[]),(false,[]),(false,[]),(false,[])]) else entK ok_sTakenBy ea_sTakenBy (f_sTakenBy) [(wMl m)] fun (r7:Int)=>bif decide (m.c.1 < i64.wrap (r7+1)) then gl r1.2.length<|gl r1.3.length<|gl r1.2.length<|gl r1.3.length<|some ([(oR (Ml.cs r1)),(false,[.tr true (T.int i64 5)])],[(false,[]),(false,[]),(false,[]),(false,[])]) else bif decide (0≤r2.1) then gd (decide (0≤r2.1)&&(r2.1.toNat.blt r1.2.length&&true))<|gd ((0+r2.1.toNat).blt r1.2.length&&true&&(q1.isArr&&q1.wd.beq 2))<|gd ((0+r2.1.toNat).blt r1.2.length&&true&&true&&(q2.get [0+r2.1.toNat,4+0]).isArr)<|gd (Nat.beq 2 (q2.get [0+r2.1.toNat,4+0]).wd&&(0+q1.ln).ble (q2.get [0+r2.1.toNat,4+0]).ln)<|gd (((1+q1.ln) * 16).ble 70368744177664&&(1+q1.ln).ble 70368744177664)<|gd (decide (0≤r2.1)&&(r2.1.toNat.blt r1.2.length&&true))<|gd ((1+q1.ln).ble (1+q1.ln)&&true)<|gd ((0+r2.1.toNat).blt r1.2.length&&true&&true)<|gl r1.2.length<|entK ok_sPut ea_sPut (f_sPut) [(3,false,[C.tr true (T.arr 11 r1.2.length q4)]),(3,true,[C.tr true (T.int i64 h.1),C.tr true (T.int i64 h.2),C.tr true (T.int i64 up.1),C.tr true (T.int i64 up.2),C.tr true (T.arr 2 0 fun x x_1=>T.hole),C.tr true (T.int i64 0),C.tr true (T.int i64 1),C.tr true (T.bool true),C.tr true (T.int i64 0),C.tr true (T.arr 1 0 fun x x_1=>T.hole),C.tr true (T.arr 1 0 fun x x_1=>T.hole)])] fun (r8:List Rm)=>gl r8.length<|gl r8.length<|gl r1.3.length<|gl r8.length<|gl r1.3.length<|some ([(true,[.tr true (T.int i64 r1.c.1),.tr true (T.int i64 r1.c.2),.tr true (T.int i64 r1.c.3),.tr true (T.int i64 r1.c.4),.tr true (T.int i64 r1.c.5),.tr true (T.int i64 r1.c.6),.tr true (.arr (11) (r8.length) ((eL 11 Rm.cs r8).fn)),.tr true (.arr (1) (r1.3.length) ((eL 1 rowI r1.3).fn))]),(false,[.tr true (T.int i64 0)])],[(false,[]),(false,[]),(false,[]),(false,[])]) else gl r1.2.length<|entK ok_sPut ea_sPut (f_sPut) [(3,false,[C.tr true q2]),(3,true,[C.tr true (T.int i64 h.1),C.tr true (T.int i64 h.2),C.tr true (T.int i64 up.1),C.tr true (T.int i64 up.2),C.tr true (T.arr 2 0 fun x x_1=>T.hole),C.tr true (T.int i64 0),C.tr true (T.int i64 1),C.tr true (T.bool true),C.tr true (T.int i64 0),C.tr true (T.arr 1 0 fun x x_1=>T.hole),C.tr true (T.arr 1 0 fun x x_1=>T.hole)])] fun (r9:List Rm)=>gl r9.length<|gl r9.length<|gl r1.3.length<|gl r9.length<|gl r1.3.length<|some ([(true,[.tr true (T.int i64 r1.c.1),.tr true (T.int i64 r1.c.2),.tr true (T.int i64 r1.c.3),.tr true (T.int i64 r1.c.4),.tr true (T.int i64 r1.c.5),.tr true (T.int i64 r1.c.6),.tr true (.arr (11) (r9.length) ((eL 11 Rm.cs r9).fn)),.tr true (.arr (1) (r1.3.length) ((eL 1 rowI r1.3).fn))]),(false,[.tr true (T.int i64 0)])],[(false,[]),(false,[]),(false,[]),(false,[])]) else bif !b then gl r1.2.length<|gl r1.3.length<|gl r1.2.length<|gl r1.3.length<|some ([(oR (Ml.cs r1)),(false,[.tr true (T.int i64 4)])],[(false,[]),(false,[]),(false,[]),(false,[])]) else entK ok_sTakenBy ea_sTakenBy (f_sTakenBy) [(wMl m)] fun (r10:Int)=>bif decide (m.c.1 < i64.wrap (r10+1)) then gl r1.2.length<|gl r1.3.length<|gl r1.2.length<|gl r1.3.length<|some ([(oR (Ml.cs r1)),(false,[.tr true (T.int i64 5)])],[(false,[]),(false,[]),(false,[]),(false,[])]) else gl r1.2.length<|entK ok_sPut ea_sPut (f_sPut) [(3,false,[C.tr true q2]),(3,true,[C.tr true (T.int i64 h.1),C.tr true (T.int i64 h.2),C.tr true (T.int i64 up.1),C.tr true (T.int i64 up.2),C.tr true (T.arr 2 0 fun x x_1=>T.hole),C.tr true (T.int i64 0),C.tr true (T.int i64 1),C.tr true (T.bool true),C.tr true (T.int i64 0),C.tr true (T.arr 1 0 fun x x_1=>T.hole),C.tr true (T.arr 1 0 fun x x_1=>T.hole)])] fun (r11:List Rm)=>gl r11.length<|gl r11.length<|gl r1.3.length<|gl r11.length<|gl r1.3.length<|some ([(true,[.tr true (T.int i64 r1.c.1),.tr true (T.int i64 r1.c.2),.tr true (T.int i64 r1.c.3),.tr true (T.int i64 r1.c.4),.tr true (T.int i64 r1.c.5),.tr true (T.int i64 r1.c.6),.tr true (.arr (11) (r11.length) ((eL 11 Rm.cs r11).fn)),.tr true (.arr (1) (r1.3.length) ((eL 1 rowI r1.3).fn))]),(false,[.tr true (T.int i64 0)])],[(false,[]),(false,[]),(false,[]),(false,[])])):=by kernel_rfl
end Go.Mach.F
namespace Go.Mach.F
open Go Go.Mach Go.Proofs.Tryz Go.IntKind
def rI (r:List Int) (i:Nat):Int:=r.getD i 0
theorem rI_get {r:List Int} {i:Nat} (h:i < r.length):r[i]?=some (rI r i):=by
 unfold rI
 rw [List.getD_eq_getElem?_getD,List.getElem?_eq_getElem h]
 rfl
/-- The first i and the last i have changed places. -/
def rv (l:List Int) (i:Nat):List Int:=(List.range l.length).map fun j=>if j < i∨l.length≤j+i then rI l (l.length - 1 - j) else rI l j
theorem rv_len (l:List Int) (i:Nat):(rv l i).length=l.length:=by simp [rv]
theorem rv_get (l:List Int) (i:Nat) {j:Nat} (h:j < l.length):(rv l i)[j]?=some (if j < i∨l.length≤j+i then rI l (l.length - 1 - j) else rI l j):=by
 unfold rv
 rw [List.getElem?_map,List.getElem?_range h]
 rfl
theorem rv_zero (l:List Int):rv l 0=l:=by
 refine List.ext_getElem? fun j=>?_
 by_cases h:j < l.length
 ·rw [rv_get l 0 h,if_neg (by omega),rI_get h]
 ·rw [List.getElem?_eq_none (by rw [rv_len];omega),List.getElem?_eq_none (by omega)]
theorem rv_half (l:List Int):rv l (l.length / 2)=l.reverse:=by
 refine List.ext_getElem? fun j=>?_
 by_cases h:j < l.length
 ·rw [rv_get l _ h,List.getElem?_reverse h,rI_get (show l.length - 1 - j < l.length by omega)]
  by_cases h1:j < l.length / 2∨l.length≤j+l.length / 2
  ·rw [if_pos h1]
  ·rw [if_neg h1,show l.length - 1 - j=j by omega]
 ·rw [List.getElem?_eq_none (by rw [rv_len];omega),List.getElem?_eq_none (by rw [List.length_reverse];omega)]
theorem rv_step (l:List Int) {i:Nat} (h:i < l.length / 2):((rv l i).set i (rI l (l.length - 1 - i))).set (l.length - 1 - i) (rI l i)=rv l (i+1):=by
 refine List.ext_getElem? fun j=>?_
 by_cases hj:j < l.length
 ·rw [rv_get l _ hj]
  by_cases e1:j=l.length - 1 - i
  ·subst e1
   rw [List.getElem?_set_self (by rw [List.length_set,rv_len];omega),if_pos (by omega),show l.length - 1 - (l.length - 1 - i)=i by omega]
  ·rw [List.getElem?_set_ne (Ne.symm e1)]
   by_cases e2:j=i
   ·subst e2
    rw [List.getElem?_set_self (by rw [rv_len];omega),if_pos (by omega)]
   ·rw [List.getElem?_set_ne (Ne.symm e2),rv_get l _ hj]
    by_cases h2:j < i∨l.length≤j+i
    ·rw [if_pos h2,if_pos (by omega)]
    ·rw [if_neg h2,if_neg (by omega)]
 ·rw [List.getElem?_eq_none (by rw [List.length_set,List.length_set,rv_len];omega),List.getElem?_eq_none (by rw [rv_len];omega)]
theorem body_Rev (l:List Int) (h:ok_Rev l):body prog (tabS []) kp_Rev (l.length+1) F_Rev (ea_Rev l)=some ([],[oT (eI (f_Rev l))]):=by
 have hlm:=lm
 have hl:l.length≤LM:=h
 unfold ea_Rev f_Rev
 rw [pre_Rev]
 have w0:i64.wrap ((l.length:Int) - 1)=(l.length:Int) - 1 - ((0:Nat):Int):=by rw [IntKind.wrap_i64];omega
 have hst:st_Rev_1 l 0 (i64.wrap ((l.length:Int) - 1)) l.length (atL rowI l)=(fun i:Nat=>st_Rev_1 l (i:Nat) ((l.length:Int) - 1 - (i:Nat)) l.length (atL rowI (rv l i))) 0:=by
  rw [w0]
  simp only [rv_zero]
  rfl
 rw [hst,forLoop (l.length / 2) (fun i:Nat=>st_Rev_1 l (i:Nat) ((l.length:Int) - 1 - (i:Nat)) l.length (atL rowI (rv l i))) (ex_Rev_1_1 l (l.length / 2:Nat) ((l.length:Int) - 1 - (l.length / 2:Nat)) l.length (atL rowI l.reverse)) 0 (fun i K hi=>?_) (fun K=>?_) _ (by omega)]
 ·rw [post_Rev_1_1]
  simp only [oT,eL_T,List.length_reverse]
 ·have w1:i64.wrap ((l.length:Int) - 1 - (i:Int) - 1)=(l.length:Int) - 1 - ((i+1:Nat):Int):=by rw [IntKind.wrap_i64];omega
  have w2:((l.length:Int) - 1 - (i:Int)).toNat=l.length - 1 - i:=by omega
  have q1:(i:Int) < (l.length:Int) - 1 - (i:Int):=by omega
  have q2:0≤(l.length:Int) - 1 - (i:Int):=by omega
  have q3:l.length - 1 - i < l.length:=by omega
  have q4:i < l.length:=by omega
  have g1:=rv_get l i q4
  have g2:=rv_get l i q3
  rw [if_neg (by omega)] at g1 g2
  rw [round_Rev_1]
  simp (disch:=omega) only [rsx0,q1,q2,q3,q4,w1,w2,atL_of g1,atL_of g2,rowI,wrapS]
  rw [setF_list (y:=rI l (l.length - 1 - i)) g1 rfl (by decide:0 < 1),setF_list (x:=rI l (l.length - 1 - i)) (y:=rI l i) (by rw [List.getElem?_set_ne (by omega),g2]) rfl (by decide:0 < 1),rv_step l hi]
 ·have q1:¬ ((l.length / 2:Nat):Int) < (l.length:Int) - 1 - ((l.length / 2:Nat):Int):=by omega
  rw [round_Rev_1]
  simp only [q1,decide_false,cond_false,rv_half]
theorem s_Rev:EntOk prog i_Rev e_Rev:=ent_ok ea_Rev_inj fun x hx =>
 body_sound (φ:=(tabS [])) tabS_nil mixed (kp:=kp_Rev) (n:=x.length+1) func202 (c:=bodyOf F_Rev) (by kernel_rfl) (body_Rev x hx) (name_ok (by kernel_rfl))
theorem body_iTagsDown (l:List Int) (n:Nat) (h:ok_iTagsDown l):body prog tb25 kp_iTagsDown n F_iTagsDown (ea_iTagsDown l)=some (erT 1 (eI (f_iTagsDown l))):=by
 have c0:ok_clI l:=h
 have c1:ok_Rev l:=h
 unfold ea_iTagsDown f_iTagsDown
 rw [pre_iTagsDown,entK_of (dm_clI c0) (iv_clI c0)]
 simp only [d_clI,rsx0,ble_d,Nat.le_refl]
 rw [entK_of (dm_Rev c1) (iv_Rev c1)]
 simp only [d_Rev,List.length_reverse,rsx0,ble_d,Nat.le_refl]
 simp only [erT,oT,eL_T,List.length_reverse]
 rfl
theorem s_iTagsDown:EntOk prog i_iTagsDown e_iTagsDown:=ent_ok ea_iTagsDown_inj fun x hx =>
 body_sound (φ:=tb25) (tabS_cons s_clI (tabS_cons s_Rev tabS_nil)) mixed (kp:=kp_iTagsDown) (n:=0) func177 (c:=bodyOf F_iTagsDown) (by kernel_rfl) (body_iTagsDown x (0) hx) (name_ok (by kernel_rfl))
theorem body_sTagsDown (l:List Int) (h:ok_sTagsDown l):body prog (tabS []) kp_sTagsDown (l.length+1) F_sTagsDown (ea_sTagsDown l)=some (erT 1 (eI (f_sTagsDown l))):=by
 have hlm:=lm
 have hl:l.length≤LM:=h
 unfold ea_sTagsDown f_sTagsDown
 rw [pre_sTagsDown]
 have w0:i64.wrap ((l.length:Int) - 1)=(l.length:Int) - 1 - ((0:Nat):Int):=by rw [IntKind.wrap_i64];omega
 have hst:st_sTagsDown_1 l 0 (rowsT []) (i64.wrap ((l.length:Int) - 1))=(fun i:Nat=>st_sTagsDown_1 l i (atL rowI (l.reverse.take i)) ((l.length:Int) - 1 - (i:Nat))) 0:=by
  rw [w0,rowsT0 rowI]
  rfl
 rw [hst,forLoop l.length (fun i:Nat=>st_sTagsDown_1 l i (atL rowI (l.reverse.take i)) ((l.length:Int) - 1 - (i:Nat))) (ex_sTagsDown_1_1 l l.length (atL rowI l.reverse) ((l.length:Int) - 1 - (l.length:Nat))) 0 (fun i K hi=>?_) (fun K=>?_) _ (Nat.le_refl _)]
 ·rw [post_sTagsDown_1_1]
  simp only [rsx0,ble_d,Nat.le_refl,erT,oT,eL_T,List.length_reverse]
  rfl
 ·have w1:i64.wrap ((l.length:Int) - 1 - (i:Int) - 1)=(l.length:Int) - 1 - ((i+1:Nat):Int):=by rw [IntKind.wrap_i64];omega
  have w2:((l.length:Int) - 1 - (i:Int)).toNat=l.length - 1 - i:=by omega
  have q2:0≤(l.length:Int) - 1 - (i:Int):=by omega
  have q3:l.length - 1 - i < l.length:=by omega
  have hs:(i+1) * 8≤70368744177664:=by omega
  have hs2:i+1≤70368744177664:=by omega
  have hr:l.reverse[i]?=some (rI l (l.length - 1 - i)):=by rw [List.getElem?_reverse hi,rI_get q3]
  have li:(l.reverse.take i).length=i:=by rw [List.length_take,List.length_reverse];omega
  have ha:appF i (atL rowI (l.reverse.take i)) (atL rowI [rI l (l.length - 1 - i)])=atL rowI (l.reverse.take (i+1)):=by
   have:=appF_app rowI (l.reverse.take i) [rI l (l.length - 1 - i)]
   rw [li] at this
   rw [this,List.take_add_one,hr]
   rfl
  rw [round_sTagsDown_1]
  simp (disch:=omega) only [rsx0,ble_d,Nat.le_refl,q2,q3,w1,w2,hs,hs2,atL_of (rI_get q3),rowI]
  rw [plain1,ha]
 ·have q1:¬ 0≤(l.length:Int) - 1 - (l.length:Int):=by omega
  rw [round_sTagsDown_1]
  simp only [q1,decide_false,cond_false]
  rw [show l.reverse.take l.length=l.reverse from by rw [← List.length_reverse,List.take_length]]
theorem s_sTagsDown:EntOk prog i_sTagsDown e_sTagsDown:=ent_ok ea_sTagsDown_inj fun x hx =>
 body_sound (φ:=(tabS [])) tabS_nil mixed (kp:=kp_sTagsDown) (n:=x.length+1) func162 (c:=bodyOf F_sTagsDown) (by kernel_rfl) (body_sTagsDown x hx) (name_ok (by kernel_rfl))
end Go.Mach.F
namespace Go.Mach.F
open Go Go.Mach Go.Proofs.Tryz Go.IntKind
--=set_option maxRecDepth 100000
def i_Give2:Nat:=133
noncomputable abbrev F_Give2:Func:=f133
def kp_Give2:List (Nat × List Nat):=[(0,[4,8,9]),(1,[12])]
noncomputable def e_Give2:Ent:=inl [0,0] prog (tabS []) kp_Give2 0 F_Give2
theorem s_Give2:EntOk prog i_Give2 e_Give2:=inl_ok tabS_nil mixed (c:=bodyOf F_Give2) func133 (by kernel_rfl) (name_ok (by kernel_rfl))
def ixH (l:List Hd) (h:Hd):Int:=match (List.range l.length).find? (fun i=>decide (l[i]?=some h)) with | some i=>(i:Int) | none=>-1
def hasH (l:List Hd) (h:Hd):Bool:=decide (h∈l)
def ok_ixHd (x:List Hd × Hd):Prop:=x.1.length≤LM
def ea_ixHd (x:List Hd × Hd):List Arg:=[aT (eL 2 Hd.cs x.1),aF i_Give2 x.2.cs]
def f_ixHd (x:List Hd × Hd):Int:=ixH x.1 x.2
noncomputable def e_ixHd:Ent:=ent [] ok_ixHd ea_ixHd (erI 2) f_ixHd
theorem ea_ixHd_inj (x y:List Hd × Hd) (h:ea_ixHd x=ea_ixHd y):x=y:=by
 obtain ⟨l1,h1⟩:=x
 obtain ⟨l2,h2⟩:=y
 simp only [ea_ixHd,List.cons.injEq,and_true,true_and] at h
 obtain ⟨e0,e1⟩:=h
 obtain rfl:=eL_inj Hd.cs_inj (aT_inj e0)
 obtain rfl:=Hd.cs_ext (aF_inj (by rfl) e1)
 rfl
theorem dm_ixHd {l:List Hd} {h:Hd} (h0:ok_ixHd (l,h)):dom ok_ixHd ea_ixHd [(0,false,[C.tr false (T.arr 2 l.length (atL Hd.cs l))]),(0,false,[C.fn 133 [Pt.pim 2 (pimF [T.int i64 h.slot,T.int i64 h.gen])]])]=true:=dom_ea (ea:=ea_ixHd) (x:=(l,h)) h0
theorem iv_ixHd {l:List Hd} {h:Hd} (h0:ok_ixHd (l,h)):inv ok_ixHd ea_ixHd [(0,false,[C.tr false (T.arr 2 l.length (atL Hd.cs l))]),(0,false,[C.fn 133 [Pt.pim 2 (pimF [T.int i64 h.slot,T.int i64 h.gen])]])]=(l,h):=inv_ea ea_ixHd_inj (x:=(l,h)) h0
theorem d_ixHd (l:List Hd) (h:Hd):f_ixHd (l,h)=ixH l h:=rfl
def i_ixHd:Nat:=179
noncomputable abbrev F_ixHd:Func:=f179
def kp_ixHd:List (Nat × List Nat):=[(0,[0,4]),(1,[0,4,28,32]),(2,[0,4,28,32,36]),(3,[0,4,20,28,32]),(4,[0,4,20,28,32,64]),(5,[16]),(6,[0,4,28,32]),(7,[16])]
def ts_ixHd:List Nat:=[0,0]
def st_ixHd_1 (l:List Hd) (h:Hd) (x32:Int):St:=[(0,⟨z0,[(false,[.tr false (eL 2 Hd.cs l)])]⟩),(4,⟨z0,[(false,[(C.fn 133 [Pt.pim [T.int i64 h.1,T.int i64 h.2].length (pimF [T.int i64 h.1,T.int i64 h.2])])])]⟩),(28,⟨z0,[(false,[.tr true (T.int i64 (↑l.length:Int))])]⟩),(32,⟨z0,[(false,[.tr true (T.int i64 x32)])]⟩)]
def ex_ixHd_1_1 (l:List Hd) (h:Hd) (x32:Int):St:=[(16,⟨z0,[(false,[.tr true (T.int i64 x32)])]⟩)]
def ex_ixHd_1_2 (l:List Hd) (h:Hd) (x32:Int):St:=[(0,⟨z0,[(false,[.tr false (eL 2 Hd.cs l)])]⟩),(4,⟨z0,[(false,[(C.fn 133 [Pt.pim [T.int i64 h.1,T.int i64 h.2].length (pimF [T.int i64 h.1,T.int i64 h.2])])])]⟩),(28,⟨z0,[(false,[.tr true (T.int i64 (↑l.length:Int))])]⟩),(32,⟨z0,[(false,[.tr true (T.int i64 x32)])]⟩),(36,⟨z0,[]⟩)]
theorem round_ixHd_1 (l:List Hd) (h:Hd) (x32:Int) (n:Nat) (K:Ex→St→Res):roundAt prog (tabS [(i_Give2,e_Give2)]) kp_ixHd F_ixHd [1,0,1,0] n (st_ixHd_1 l h x32) K=(bif decide (x32 < (↑l.length:Int)) then gd (decide (0≤x32)&&(x32.toNat.blt l.length&&true))<|gd (T.isI i64 (atL Hd.cs l x32.toNat 0)&&T.isI i64 (atL Hd.cs l x32.toNat 1))<|bif bif (atL Hd.cs l x32.toNat 0).toI == (T.int i64 h.1).toI then bif (atL Hd.cs l x32.toNat 1).toI == (T.int i64 h.2).toI then true else false else false then K .ret (ex_ixHd_1_1 l h x32) else K .normal (st_ixHd_1 l h (i64.wrap (x32+1))) else K (.exit 0) (ex_ixHd_1_2 l h x32)):=by kernel_rfl
theorem post_ixHd_1_1 (l:List Hd) (h:Hd) (x32:Int) (n:Nat):contAt prog (tabS [(i_Give2,e_Give2)]) kp_ixHd F_ixHd ts_ixHd [1,0,1,0] [] n .ret (ex_ixHd_1_1 l h x32)=(some ([(false,[.tr true (T.int i64 x32)])],[(false,[]),(false,[])])):=by kernel_rfl
theorem post_ixHd_1_2 (l:List Hd) (h:Hd) (x32:Int) (n:Nat):contAt prog (tabS [(i_Give2,e_Give2)]) kp_ixHd F_ixHd ts_ixHd [1,0,1,0] [] n (.exit 0) (ex_ixHd_1_2 l h x32)=(some ([(false,[.tr true (T.int i64 (-1))])],[(false,[]),(false,[])])):=by kernel_rfl
theorem pre_ixHd (l:List Hd) (h:Hd) (n:Nat):body prog (tabS [(i_Give2,e_Give2)]) kp_ixHd n F_ixHd [aT (eL 2 Hd.cs l),aF i_Give2 h.cs]=(loopAt prog (tabS [(i_Give2,e_Give2)]) kp_ixHd F_ixHd [1,0,1,0] n n (st_ixHd_1 l h (0)) (contAt prog (tabS [(i_Give2,e_Give2)]) kp_ixHd F_ixHd ts_ixHd [1,0,1,0] [] n)):=by kernel_rfl
def ok_idHd (x:List Hd × Hd):Prop:=x.1.length≤LM
def ea_idHd (x:List Hd × Hd):List Arg:=[aT (eL 2 Hd.cs x.1),aR x.2.cs]
def f_idHd (x:List Hd × Hd):Int:=ixH x.1 x.2
noncomputable def e_idHd:Ent:=ent [] ok_idHd ea_idHd (erI 2) f_idHd
theorem ea_idHd_inj (x y:List Hd × Hd) (h:ea_idHd x=ea_idHd y):x=y:=by
 obtain ⟨l1,h1⟩:=x
 obtain ⟨l2,h2⟩:=y
 simp only [ea_idHd,List.cons.injEq,and_true,true_and] at h
 obtain ⟨e0,e1⟩:=h
 obtain rfl:=eL_inj Hd.cs_inj (aT_inj e0)
 obtain rfl:=Hd.cs_ext (aR_inj e1)
 rfl
theorem dm_idHd {l:List Hd} {h:Hd} (h0:ok_idHd (l,h)):dom ok_idHd ea_idHd [(0,false,[C.tr false (T.arr 2 l.length (atL Hd.cs l))]),(wHd h)]=true:=dom_ea (ea:=ea_idHd) (x:=(l,h)) h0
theorem iv_idHd {l:List Hd} {h:Hd} (h0:ok_idHd (l,h)):inv ok_idHd ea_idHd [(0,false,[C.tr false (T.arr 2 l.length (atL Hd.cs l))]),(wHd h)]=(l,h):=inv_ea ea_idHd_inj (x:=(l,h)) h0
def i_idHd:Nat:=178
noncomputable abbrev F_idHd:Func:=f178
def kp_idHd:List (Nat × List Nat):=[(0,[0,12,13]),(1,[0,12,13,28,32]),(2,[0,12,13,28,32,36]),(3,[0,12,13,20,28,32]),(4,[0,12,13,20,28,32,64]),(5,[16]),(6,[0,12,13,28,32]),(7,[16])]
def ts_idHd:List Nat:=[0,0]
def st_idHd_1 (l:List Hd) (h:Hd) (x32:Int):St:=[(0,⟨z0,[(false,[.tr false (eL 2 Hd.cs l)])]⟩),(12,⟨z0,[(false,[(C.pt (Pt.ptr 13 0 [] 2 0 0))])]⟩),(13,⟨z0,[(true,[.tr true (T.int i64 h.1),.tr true (T.int i64 h.2)])]⟩),(28,⟨z0,[(false,[.tr true (T.int i64 (↑l.length:Int))])]⟩),(32,⟨z0,[(false,[.tr true (T.int i64 x32)])]⟩)]
def ex_idHd_1_1 (l:List Hd) (h:Hd) (x32:Int):St:=[(16,⟨z0,[(false,[.tr true (T.int i64 x32)])]⟩)]
def ex_idHd_1_2 (l:List Hd) (h:Hd) (x32:Int):St:=[(0,⟨z0,[(false,[.tr false (eL 2 Hd.cs l)])]⟩),(12,⟨z0,[(false,[(C.pt (Pt.ptr 13 0 [] 2 0 0))])]⟩),(13,⟨z0,[(true,[.tr true (T.int i64 h.1),.tr true (T.int i64 h.2)])]⟩),(28,⟨z0,[(false,[.tr true (T.int i64 (↑l.length:Int))])]⟩),(32,⟨z0,[(false,[.tr true (T.int i64 x32)])]⟩),(36,⟨z0,[]⟩)]
theorem round_idHd_1 (l:List Hd) (h:Hd) (x32:Int) (n:Nat) (K:Ex→St→Res):roundAt prog (tabS []) kp_idHd F_idHd [1,0,1,0] n (st_idHd_1 l h x32) K=(bif decide (x32 < (↑l.length:Int)) then gd (decide (0≤x32)&&(x32.toNat.blt l.length&&true))<|gd (T.isI i64 (atL Hd.cs l x32.toNat 0)&&T.isI i64 (atL Hd.cs l x32.toNat 1))<|bif bif h.1 == (atL Hd.cs l x32.toNat 0).toI then bif h.2 == (atL Hd.cs l x32.toNat 1).toI then true else false else false then K .ret (ex_idHd_1_1 l h x32) else K .normal (st_idHd_1 l h (i64.wrap (x32+1))) else K (.exit 0) (ex_idHd_1_2 l h x32)):=by kernel_rfl
theorem post_idHd_1_1 (l:List Hd) (h:Hd) (x32:Int) (n:Nat):contAt prog (tabS []) kp_idHd F_idHd ts_idHd [1,0,1,0] [] n .ret (ex_idHd_1_1 l h x32)=(some ([(false,[.tr true (T.int i64 x32)])],[(false,[]),(false,[])])):=by kernel_rfl
theorem post_idHd_1_2 (l:List Hd) (h:Hd) (x32:Int) (n:Nat):contAt prog (tabS []) kp_idHd F_idHd ts_idHd [1,0,1,0] [] n (.exit 0) (ex_idHd_1_2 l h x32)=(some ([(false,[.tr true (T.int i64 (-1))])],[(false,[]),(false,[])])):=by kernel_rfl
theorem pre_idHd (l:List Hd) (h:Hd) (n:Nat):body prog (tabS []) kp_idHd n F_idHd [aT (eL 2 Hd.cs l),aR h.cs]=(loopAt prog (tabS []) kp_idHd F_idHd [1,0,1,0] n n (st_idHd_1 l h (0)) (contAt prog (tabS []) kp_idHd F_idHd ts_idHd [1,0,1,0] [] n)):=by kernel_rfl
def ok_delH (x:List Hd × Hd):Prop:=x.1.length≤LM
def ea_delH (x:List Hd × Hd):List Arg:=[vT (eL 2 Hd.cs x.1),aF i_Give2 x.2.cs]
def f_delH (x:List Hd × Hd):List Hd:=x.1.filter (fun y=>!decide (y=x.2))
noncomputable def e_delH:Ent:=ent [3] ok_delH ea_delH (fun l=>([oT (eL 2 Hd.cs l)],[nul,nul])) f_delH
theorem ea_delH_inj (x y:List Hd × Hd) (h:ea_delH x=ea_delH y):x=y:=by
 obtain ⟨l1,h1⟩:=x
 obtain ⟨l2,h2⟩:=y
 simp only [ea_delH,List.cons.injEq,and_true,true_and] at h
 obtain ⟨e0,e1⟩:=h
 obtain rfl:=eL_inj Hd.cs_inj (vT_inj e0)
 obtain rfl:=Hd.cs_ext (aF_inj (by rfl) e1)
 rfl
theorem dm_delH {l:List Hd} {h:Hd} (h0:ok_delH (l,h)):dom ok_delH ea_delH [(3,false,[C.tr true (T.arr 2 l.length (atL Hd.cs l))]),(0,false,[C.fn 133 [Pt.pim 2 (pimF [T.int i64 h.slot,T.int i64 h.gen])]])]=true:=dom_ea (ea:=ea_delH) (x:=(l,h)) h0
theorem iv_delH {l:List Hd} {h:Hd} (h0:ok_delH (l,h)):inv ok_delH ea_delH [(3,false,[C.tr true (T.arr 2 l.length (atL Hd.cs l))]),(0,false,[C.fn 133 [Pt.pim 2 (pimF [T.int i64 h.slot,T.int i64 h.gen])]])]=(l,h):=inv_ea ea_delH_inj (x:=(l,h)) h0
theorem d_delH (l:List Hd) (h:Hd):f_delH (l,h)=l.filter (fun y=>!decide (y=h)):=rfl
def i_delH:Nat:=132
noncomputable abbrev F_delH:Func:=f132
def kp_delH:List (Nat × List Nat):=[(0,[0,4,2]),(1,[0,4,20,2]),(2,[0,4,20,48,2]),(3,[16,2]),(4,[0,4,20,24,2]),(5,[0,4,20,24,76,2]),(6,[0,4,20,24,2]),(7,[0,4,20,24,28,29,2]),(8,[0,4,20,24,28,29,116,2]),(9,[0,4,20,24,2]),(10,[0,4,20,24,2]),(11,[0,20,2]),(12,[16,2])]
def ts_delH:List Nat:=[3,0]
def st_delH_1 (l:List Hd) (h:Hd) (nx0:Nat) (fx0:Nat→Nat→T) (x20:Int) (x24:Int):St:=[(0,⟨z0,[(false,[.tr true (.arr (2) (nx0) (fx0))])]⟩),(4,⟨z0,[(false,[(C.fn 133 [Pt.pim [T.int i64 h.1,T.int i64 h.2].length (pimF [T.int i64 h.1,T.int i64 h.2])])])]⟩),(20,⟨z0,[(false,[.tr true (T.int i64 x20)])]⟩),(24,⟨z0,[(false,[.tr true (T.int i64 x24)])]⟩)]
def ex_delH_1_1 (l:List Hd) (h:Hd) (nx0:Nat) (fx0:Nat→Nat→T) (x20:Int) (x24:Int):St:=[(0,⟨z0,[(false,[.tr true (.arr (2) (nx0) (fx0))])]⟩),(4,⟨z0,[(false,[(C.fn 133 [Pt.pim [T.int i64 h.1,T.int i64 h.2].length (pimF [T.int i64 h.1,T.int i64 h.2])])])]⟩),(20,⟨z0,[(false,[.tr true (T.int i64 x20)])]⟩),(24,⟨z0,[(false,[.tr true (T.int i64 x24)])]⟩),(76,⟨z0,[]⟩)]
noncomputable abbrev tb28:Sems:=tabS [(i_ixHd,e_ixHd),(i_Give2,e_Give2)]
theorem round_delH_1 (l:List Hd) (h:Hd) (nx0:Nat) (fx0:Nat→Nat→T) (x20:Int) (x24:Int) (n:Nat) (K:Ex→St→Res):roundAt prog tb28 kp_delH F_delH [1,1,1,0,1,0] n (st_delH_1 l h nx0 fx0 x20 x24) K=(bif decide (x24 < (↑nx0:Int)) then gd (decide (0≤x24)&&(x24.toNat.blt nx0&&true))<|gd ((0+x24.toNat).blt nx0&&true&&(T.isI i64 (fx0 (0+x24.toNat) 0)&&T.isI i64 (fx0 (0+x24.toNat) 1)))<|bif !bif (fx0 (0+x24.toNat) 0).toI == (T.int i64 h.1).toI then bif (fx0 (0+x24.toNat) 1).toI == (T.int i64 h.2).toI then true else false else false then gd (decide (0≤x20)&&(x20.toNat.blt nx0&&true))<|gd ((0+x20.toNat).blt nx0&&true&&true)<|gd ((0+x20.toNat).blt nx0&&true&&true)<|K .normal (st_delH_1 l h (nx0) (setF (0+x20.toNat) 1 (T.int i64 (fx0 (0+x24.toNat) 1).toI) (setF (0+x20.toNat) 0 (T.int i64 (fx0 (0+x24.toNat) 0).toI) fx0)) (i64.wrap (x20+1)) (i64.wrap (x24+1))) else K .normal (st_delH_1 l h (nx0) (fx0) (x20) (i64.wrap (x24+1))) else K (.exit 0) (ex_delH_1_1 l h nx0 fx0 x20 x24)):=by kernel_rfl
theorem post_delH_1_1 (l:List Hd) (h:Hd) (nx0:Nat) (fx0:Nat→Nat→T) (x20:Int) (x24:Int) (n:Nat):contAt prog tb28 kp_delH F_delH ts_delH [1,1,1,0,1,0] [] n (.exit 0) (ex_delH_1_1 l h nx0 fx0 x20 x24)=(gd (decide (0≤x20)&&(decide (x20≤(↑nx0:Int))&&decide ((↑nx0:Int)≤(↑nx0:Int))))<|gd ((0+x20.toNat+((↑nx0:Int).toNat - x20.toNat)).ble nx0)<|gd (decide (0≤x20)&&decide (x20≤(↑nx0:Int)))<|gd ((x20.toNat - 0).ble nx0&&true)<|gd ((x20.toNat - 0).ble (x20.toNat - 0)&&true)<|some ([(false,[.tr true (.arr (2) (x20.toNat - 0) (fillT 2 (0+x20.toNat) ((↑nx0:Int).toNat - x20.toNat) (fun x k=>zeroT prog 44 0 k) fx0))])],[(false,[]),(false,[])])):=by kernel_rfl
theorem pre_delH (l:List Hd) (h:Hd) (n:Nat):body prog tb28 kp_delH n F_delH [vT (eL 2 Hd.cs l),aF i_Give2 h.cs]=(gd ((0+l.length).ble l.length)<|entK ok_ixHd ea_ixHd (f_ixHd) [(0,false,[C.tr false (T.arr 2 l.length (cutT 0 l.length (eL 2 Hd.cs l).fn))]),(0,false,[C.fn 133 [Pt.pim [T.int i64 h.1,T.int i64 h.2].length (pimF [T.int i64 h.1,T.int i64 h.2])]])] fun (r1:Int)=>bif r1 == -1 then gl l.length<|gl l.length<|some ([(false,[.tr true (.arr (2) (l.length) ((eL 2 Hd.cs l).fn))])],[(false,[]),(false,[])]) else loopAt prog tb28 kp_delH F_delH [1,1,1,0,1,0] n n (st_delH_1 l h (T.ln (eL 2 Hd.cs l)) (T.fn (eL 2 Hd.cs l)) r1 (i64.wrap (r1+1))) (contAt prog tb28 kp_delH F_delH ts_delH [1,1,1,0,1,0] [] n)):=by kernel_rfl
def ok_sHasH (x:List Hd × Hd):Prop:=x.1.length≤LM
def ea_sHasH (x:List Hd × Hd):List Arg:=[aT (eL 2 Hd.cs x.1),aR x.2.cs]
def f_sHasH (x:List Hd × Hd):Bool:=hasH x.1 x.2
noncomputable def e_sHasH:Ent:=ent [] ok_sHasH ea_sHasH (erB 2) f_sHasH
theorem ea_sHasH_inj (x y:List Hd × Hd) (h:ea_sHasH x=ea_sHasH y):x=y:=by
 obtain ⟨l1,h1⟩:=x
 obtain ⟨l2,h2⟩:=y
 simp only [ea_sHasH,List.cons.injEq,and_true,true_and] at h
 obtain ⟨e0,e1⟩:=h
 obtain rfl:=eL_inj Hd.cs_inj (aT_inj e0)
 obtain rfl:=Hd.cs_ext (aR_inj e1)
 rfl
theorem dm_sHasH {l:List Hd} {h:Hd} (h0:ok_sHasH (l,h)):dom ok_sHasH ea_sHasH [(0,false,[C.tr false (T.arr 2 l.length (atL Hd.cs l))]),(wHd h)]=true:=dom_ea (ea:=ea_sHasH) (x:=(l,h)) h0
theorem iv_sHasH {l:List Hd} {h:Hd} (h0:ok_sHasH (l,h)):inv ok_sHasH ea_sHasH [(0,false,[C.tr false (T.arr 2 l.length (atL Hd.cs l))]),(wHd h)]=(l,h):=inv_ea ea_sHasH_inj (x:=(l,h)) h0
theorem d_sHasH (l:List Hd) (h:Hd):f_sHasH (l,h)=hasH l h:=rfl
def i_sHasH:Nat:=108
noncomputable abbrev F_sHasH:Func:=f108
def kp_sHasH:List (Nat × List Nat):=[(0,[0,12,13]),(1,[0,12,13,20]),(2,[0,12,13,20,36]),(3,[0,12,13,20]),(4,[0,12,13,20,68]),(5,[16]),(6,[16])]
def ts_sHasH:List Nat:=[0,0]
def st_sHasH_1 (l:List Hd) (h:Hd) (x20:Int):St:=[(0,⟨z0,[(false,[.tr false (eL 2 Hd.cs l)])]⟩),(12,⟨z0,[(false,[(C.pt (Pt.ptr 13 0 [] 2 0 0))])]⟩),(13,⟨z0,[(true,[.tr true (T.int i64 h.1),.tr true (T.int i64 h.2)])]⟩),(20,⟨z0,[(false,[.tr true (T.int i64 x20)])]⟩)]
def ex_sHasH_1_1 (l:List Hd) (h:Hd) (x20:Int):St:=[(16,⟨z0,[(false,[.tr true (T.bool true)])]⟩)]
def ex_sHasH_1_2 (l:List Hd) (h:Hd) (x20:Int):St:=[(0,⟨z0,[(false,[.tr false (eL 2 Hd.cs l)])]⟩),(12,⟨z0,[(false,[(C.pt (Pt.ptr 13 0 [] 2 0 0))])]⟩),(13,⟨z0,[(true,[.tr true (T.int i64 h.1),.tr true (T.int i64 h.2)])]⟩),(20,⟨z0,[(false,[.tr true (T.int i64 x20)])]⟩),(36,⟨z0,[]⟩)]
theorem round_sHasH_1 (l:List Hd) (h:Hd) (x20:Int) (n:Nat) (K:Ex→St→Res):roundAt prog (tabS []) kp_sHasH F_sHasH [1,0,1,0] n (st_sHasH_1 l h x20) K=(bif decide (x20 < (↑l.length:Int)) then gd (decide (0≤x20)&&(x20.toNat.blt l.length&&true))<|gd (T.isI i64 (atL Hd.cs l x20.toNat 0)&&T.isI i64 (atL Hd.cs l x20.toNat 1))<|bif bif (atL Hd.cs l x20.toNat 0).toI == h.1 then bif (atL Hd.cs l x20.toNat 1).toI == h.2 then true else false else false then K .ret (ex_sHasH_1_1 l h x20) else K .normal (st_sHasH_1 l h (i64.wrap (x20+1))) else K (.exit 0) (ex_sHasH_1_2 l h x20)):=by kernel_rfl
theorem post_sHasH_1_1 (l:List Hd) (h:Hd) (x20:Int) (n:Nat):contAt prog (tabS []) kp_sHasH F_sHasH ts_sHasH [1,0,1,0] [] n .ret (ex_sHasH_1_1 l h x20)=(some ([(false,[.tr true (T.bool true)])],[(false,[]),(false,[])])):=by kernel_rfl
theorem post_sHasH_1_2 (l:List Hd) (h:Hd) (x20:Int) (n:Nat):contAt prog (tabS []) kp_sHasH F_sHasH ts_sHasH [1,0,1,0] [] n (.exit 0) (ex_sHasH_1_2 l h x20)=(some ([(false,[.tr true (T.bool false)])],[(false,[]),(false,[])])):=by kernel_rfl
theorem pre_sHasH (l:List Hd) (h:Hd) (n:Nat):body prog (tabS []) kp_sHasH n F_sHasH [aT (eL 2 Hd.cs l),aR h.cs]=(loopAt prog (tabS []) kp_sHasH F_sHasH [1,0,1,0] n n (st_sHasH_1 l h (0)) (contAt prog (tabS []) kp_sHasH F_sHasH ts_sHasH [1,0,1,0] [] n)):=by kernel_rfl
end Go.Mach.F
namespace Go.Mach.F
open Go Go.Mach Go.Proofs.Tryz
theorem Sound.cut1 {f:FuncId} {args:List Arg} {m n:Nat} {g g':Nat→Nat→T} {outs:List Row} (h:Sound prog f args [oT (.arr m n g)] outs) (e:∀ j k,j < n→k < m→g j k=g' j k):Sound prog f args [oT (.arr m n g')] outs:=by
 refine ⟨h.1,fun w vals γ ha=>(h.2 w vals γ ha).mono fun x w' ⟨v,δ,h1,h2,h3⟩=>⟨v,δ,h1,h2,⟨h3.inj,h3.rng,fun E G V=>?_,h3.out⟩⟩⟩
 have hr:RelOwn w' (.arr m n g) (fun q=>δ 0 (0 :: 0 :: q)) v:=h3.res E G V
 show RelOwn w' (.arr m n g') (fun q=>δ 0 (0 :: 0 :: q)) v
 rcases hr with hr | ⟨b,off,cap,cs,ty,a1,a2,a3,a4,a5,a6⟩
 ·exact .inl hr
 ·refine .inr ⟨b,off,cap,cs,ty,a1,a2,a3,a4,a5,fun j hj k hk=>?_⟩
  rw [← e j k hj hk]
  exact a6 j hj k hk
theorem hd_e1 (x h:Hd):decide (x.slot=h.slot∧x.gen=h.gen)=decide (some x=some h):=by
 refine decide_eq_decide.2 ?_
 rcases x with ⟨_,_⟩
 rcases h with ⟨_,_⟩
 simp
theorem hd_e2 (x h:Hd):decide (h.slot=x.slot∧h.gen=x.gen)=decide (some x=some h):=by
 rw [← hd_e1]
 exact decide_eq_decide.2 ⟨fun e=>⟨e.1.symm,e.2.symm⟩,fun e=>⟨e.1.symm,e.2.symm⟩⟩
theorem ixH_of (l:List Hd) (h:Hd):(∃ i:Nat,ixH l h=(i:Int)∧l[i]?=some h∧i < l.length∧∀ j,j < i→l[j]?≠some h)∨(ixH l h=-1∧h ∉ l):=by
 unfold ixH
 cases hf:(List.range l.length).find? (fun i=>decide (l[i]?=some h)) with
 | some i =>
  obtain ⟨h1,h2,h3⟩:=List.find?_range_eq_some.1 hf
  refine .inl ⟨i,rfl,of_decide_eq_true h1,List.mem_range.1 h2,fun j hj e=>?_⟩
  have:=h3 j hj
  simp [e] at this
 | none =>
  refine .inr ⟨rfl,fun hm=>?_⟩
  obtain ⟨i,hi,e⟩:=List.getElem_of_mem hm
  have:=List.find?_eq_none.1 hf i (List.mem_range.2 hi)
  simp [List.getElem?_eq_getElem hi,e] at this
theorem ixH_has (l:List Hd) (h:Hd):decide (0≤ixH l h)=hasH l h:=by
 unfold hasH
 rcases ixH_of l h with ⟨i,e,hi,_⟩ | ⟨e,hn⟩
 ·rw [e,decide_eq_true (List.mem_of_getElem? hi)]
  exact decide_eq_true (Int.natCast_nonneg i)
 ·rw [e,decide_eq_false hn]
  rfl
theorem body_ixHd (l:List Hd) (h:Hd) (h0:ok_ixHd (l,h)):body prog (tabS [(i_Give2,e_Give2)]) kp_ixHd (l.length+1) F_ixHd (ea_ixHd (l,h))=some (erI 2 (f_ixHd (l,h))):=by
 have hlm:=lm
 have hl:l.length≤LM:=h0
 unfold ea_ixHd f_ixHd
 dsimp only
 rw [pre_ixHd,show st_ixHd_1 l h 0=(fun i:Nat=>st_ixHd_1 l h (i:Nat)) 0 from rfl,
  forExit l.length (fun i:Nat=>st_ixHd_1 l h (i:Nat)) (ex_ixHd_1_2 l h l.length) 0 (fun i=>decide (l[i]?=some h)) .ret (by simp) (fun i=>ex_ixHd_1_1 l h i) (fun i K hi=>?_) (fun K=>?_) _ (Nat.le_refl _)]
 ·unfold ixH
  cases (List.range l.length).find? (fun i=>decide (l[i]?=some h)) with
  | some i=>exact post_ixHd_1_1 l h i _
  | none=>exact post_ixHd_1_2 l h l.length _
 ·have hx:=List.getElem?_eq_getElem hi
  rw [round_ixHd_1]
  simp (disch:=omega) only [rsx0,hi,atL_of hx,hx,Hd.cs,wrapS,int_eq,cond_tf,cond_bf,dec_and,hd_e1]
 ·rw [round_ixHd_1]
  simp only [lt_d,Nat.lt_irrefl,decide_false,cond_false]
theorem s_ixHd:EntOk prog i_ixHd e_ixHd:=ent_ok ea_ixHd_inj fun x hx =>
 body_sound (φ:=(tabS [(i_Give2,e_Give2)])) (tabS_cons s_Give2 tabS_nil) mixed (kp:=kp_ixHd) (n:=x.1.length+1) func179 (c:=bodyOf F_ixHd) (by kernel_rfl) (body_ixHd x.1 x.2 hx) (name_ok (by kernel_rfl))
theorem body_idHd (l:List Hd) (h:Hd) (h0:ok_idHd (l,h)):body prog (tabS []) kp_idHd (l.length+1) F_idHd (ea_idHd (l,h))=some (erI 2 (f_idHd (l,h))):=by
 have hlm:=lm
 have hl:l.length≤LM:=h0
 unfold ea_idHd f_idHd
 dsimp only
 rw [pre_idHd,show st_idHd_1 l h 0=(fun i:Nat=>st_idHd_1 l h (i:Nat)) 0 from rfl,
  forExit l.length (fun i:Nat=>st_idHd_1 l h (i:Nat)) (ex_idHd_1_2 l h l.length) 0 (fun i=>decide (l[i]?=some h)) .ret (by simp) (fun i=>ex_idHd_1_1 l h i) (fun i K hi=>?_) (fun K=>?_) _ (Nat.le_refl _)]
 ·unfold ixH
  cases (List.range l.length).find? (fun i=>decide (l[i]?=some h)) with
  | some i=>exact post_idHd_1_1 l h i _
  | none=>exact post_idHd_1_2 l h l.length _
 ·have hx:=List.getElem?_eq_getElem hi
  rw [round_idHd_1]
  simp (disch:=omega) only [rsx0,hi,atL_of hx,hx,Hd.cs,wrapS,int_eq,cond_tf,cond_bf,dec_and,hd_e2]
 ·rw [round_idHd_1]
  simp only [lt_d,Nat.lt_irrefl,decide_false,cond_false]
theorem s_idHd:EntOk prog i_idHd e_idHd:=ent_ok ea_idHd_inj fun x hx =>
 body_sound (φ:=(tabS [])) tabS_nil mixed (kp:=kp_idHd) (n:=x.1.length+1) func178 (c:=bodyOf F_idHd) (by kernel_rfl) (body_idHd x.1 x.2 hx) (name_ok (by kernel_rfl))
theorem body_sHasH (l:List Hd) (h:Hd) (h0:ok_sHasH (l,h)):body prog (tabS []) kp_sHasH (l.length+1) F_sHasH (ea_sHasH (l,h))=some (erB 2 (f_sHasH (l,h))):=by
 have hlm:=lm
 have hl:l.length≤LM:=h0
 unfold ea_sHasH f_sHasH
 dsimp only
 rw [pre_sHasH,show st_sHasH_1 l h 0=(fun i:Nat=>st_sHasH_1 l h (i:Nat)) 0 from rfl,
  forExit l.length (fun i:Nat=>st_sHasH_1 l h (i:Nat)) (ex_sHasH_1_2 l h l.length) 0 (fun i=>decide (l[i]?=some h)) .ret (by simp) (fun i=>ex_sHasH_1_1 l h i) (fun i K hi=>?_) (fun K=>?_) _ (Nat.le_refl _)]
 ·have hh:=ixH_has l h
  unfold ixH at hh
  cases hf:(List.range l.length).find? (fun i=>decide (l[i]?=some h)) with
  | some i =>
   rw [hf] at hh
   rw [← hh,show decide (0≤(i:Int))=true from decide_eq_true (Int.natCast_nonneg i)]
   exact post_sHasH_1_1 l h i _
  | none =>
   rw [hf] at hh
   rw [← hh]
   exact post_sHasH_1_2 l h l.length _
 ·have hx:=List.getElem?_eq_getElem hi
  rw [round_sHasH_1]
  simp (disch:=omega) only [rsx0,hi,atL_of hx,hx,Hd.cs,wrapS,int_eq,cond_tf,cond_bf,dec_and,hd_e1]
 ·rw [round_sHasH_1]
  simp only [lt_d,Nat.lt_irrefl,decide_false,cond_false]
theorem s_sHasH:EntOk prog i_sHasH e_sHasH:=ent_ok ea_sHasH_inj fun x hx =>
 body_sound (φ:=(tabS [])) tabS_nil mixed (kp:=kp_sHasH) (n:=x.1.length+1) func108 (c:=bodyOf F_sHasH) (by kernel_rfl) (body_sHasH x.1 x.2 hx) (name_ok (by kernel_rfl))
/-- What DeleteFunc holds behind j elements: what is kept of these, then what lay there. -/
def kpF {α:Type} (p:α→Bool) (l:List α) (j:Nat):List α:=(l.take j).filter p
def kpA {α:Type} (p:α→Bool) (l:List α) (j:Nat):List α:=kpF p l j ++ l.drop (kpF p l j).length
theorem kpF_len {α:Type} (p:α→Bool) (l:List α) {j:Nat} (h:j≤l.length):(kpF p l j).length≤j:=by
 have:=List.length_filter_le p (l.take j)
 rw [List.length_take] at this
 unfold kpF
 omega
theorem kpA_len {α:Type} (p:α→Bool) (l:List α) {j:Nat} (h:j≤l.length):(kpA p l j).length=l.length:=by
 have:=kpF_len p l h
 unfold kpA
 rw [List.length_append,List.length_drop]
 omega
theorem kpA_get {α:Type} (p:α→Bool) (l:List α) {j:Nat} (h:j≤l.length):(kpA p l j)[j]?=l[j]?:=by
 have:=kpF_len p l h
 unfold kpA
 rw [List.getElem?_append_right this,List.getElem?_drop]
 congr 1
 omega
theorem kpF_next {α:Type} (p:α→Bool) {l:List α} {j:Nat} {x:α} (hx:l[j]?=some x):kpF p l (j+1)=bif p x then kpF p l j ++ [x] else kpF p l j:=by
 unfold kpF
 rw [List.take_add_one,hx,List.filter_append]
 cases hp:p x with
 | true=>simp [hp]
 | false=>simp [hp]
theorem kpA_next {α:Type} (p:α→Bool) {l:List α} {j:Nat} {x:α} (hx:l[j]?=some x):kpA p l (j+1)=bif p x then (kpA p l j).set (kpF p l j).length x else kpA p l j:=by
 have hj:=(List.getElem?_eq_some_iff.1 hx).1
 have hle:=kpF_len p l (Nat.le_of_lt hj)
 unfold kpA
 rw [kpF_next p hx]
 cases p x with
 | false=>rfl
 | true =>
  simp only [cond_true]
  rw [List.set_append_right _ _ (Nat.le_refl _),Nat.sub_self,List.length_append,List.length_singleton]
  have hd:l.drop (kpF p l j).length=(l[(kpF p l j).length]'(by omega)) :: l.drop ((kpF p l j).length+1):=List.drop_eq_getElem_cons (by omega)
  rw [hd,List.set_cons_zero,List.append_assoc]
  rfl
theorem kpF_pre {α:Type} (p:α→Bool) {l:List α} {i:Nat} (h:∀ j,j < i→∀ x,l[j]?=some x→p x=true):kpF p l i=l.take i:=by
 unfold kpF
 refine List.filter_eq_self.2 fun x hx=>?_
 obtain ⟨j,hj,e⟩:=List.getElem_of_mem hx
 rw [List.length_take] at hj
 refine h j (by omega) x ?_
 rw [List.getElem_take] at e
 rw [← e]
 exact List.getElem?_eq_getElem _
theorem set_getH {α:Type} {l:List α} {j:Nat} {x y:α} (h:l[j]?=some x):(l.set j y)[j]?=some y:=by
 rw [List.getElem?_set_self (List.getElem?_eq_some_iff.1 h).1]
theorem body_delH (l:List Hd) (h:Hd) (h0:ok_delH (l,h)):∃ g,body prog tb28 kp_delH (l.length+1) F_delH (ea_delH (l,h))=some ([oT (.arr 2 (f_delH (l,h)).length g)],[nul,nul])∧∀ j k,j < (f_delH (l,h)).length→k < 2→g j k=atL Hd.cs (f_delH (l,h)) j k:=by
 have hlm:=lm
 have hl:l.length≤LM:=h0
 have c0:ok_ixHd (l,h):=hl
 obtain ⟨p,hp⟩:∃ p:Hd→Bool,p=fun y=>!decide (y=h):=⟨_,rfl⟩
 have hf:f_delH (l,h)=kpF p l l.length:=by
  unfold f_delH kpF
  rw [List.take_length,hp]
 unfold ea_delH
 dsimp only
 rw [pre_delH]
 simp only [rsx0,ble_d,Nat.le_refl,cut_all,List.length_cons,List.length_nil,Nat.reduceAdd]
 rw [entK_of (dm_ixHd c0) (iv_ixHd c0)]
 simp only [d_ixHd,int_eq]
 rcases ixH_of l h with ⟨i0,e,hi0,hlt,hno⟩ | ⟨e,hn⟩
 ·have hne:¬ (i0:Int)=-1:=by omega
  have hpre:kpF p l i0=l.take i0:=kpF_pre p fun j hj x hx=>by
   rw [hp]
   have this:x≠h:=fun e=>hno j hj (by rw [hx,e])
   simp [this]
  have hph:p h=false:=by rw [hp];simp
  have hF1:kpF p l (i0+1)=l.take i0:=by rw [kpF_next p hi0,hph,cond_false,hpre]
  have hA1:kpA p l (i0+1)=l:=by
   unfold kpA
   rw [hF1,List.length_take,Nat.min_eq_left (Nat.le_of_lt hlt),List.take_append_drop]
  have hL1:(kpF p l (i0+1)).length=i0:=by rw [hF1,List.length_take];omega
  rw [e]
  simp (disch:=omega) only [hne,decide_false,cond_false,wrapS]
  have hst:st_delH_1 l h l.length (atL Hd.cs l) (i0:Int) ((i0+1:Nat):Int)=(fun t:Nat=>st_delH_1 l h l.length (atL Hd.cs (kpA p l (i0+1+t))) ((kpF p l (i0+1+t)).length:Int) ((i0+1+t:Nat):Int)) 0:=by
   simp only [Nat.add_zero,hA1,hL1]
  rw [hst,forLoop (l.length - (i0+1)) (fun t:Nat=>st_delH_1 l h l.length (atL Hd.cs (kpA p l (i0+1+t))) ((kpF p l (i0+1+t)).length:Int) ((i0+1+t:Nat):Int)) (ex_delH_1_1 l h l.length (atL Hd.cs (kpA p l l.length)) ((kpF p l l.length).length:Int) (l.length:Int)) 0 (fun t K ht=>?_) (fun K=>?_) _ (by omega)]
  ·have hle:=kpF_len p l (Nat.le_refl l.length)
   have q1:((kpF p l l.length).length:Int)≤(l.length:Int):=by omega
   have q2:(kpF p l l.length).length+(l.length - (kpF p l l.length).length)≤l.length:=by omega
   rw [post_delH_1_1]
   simp only [rsx0,q1,q2,ble_d,Nat.le_refl,Int.le_refl,Nat.sub_zero,hle]
   rw [hf]
   refine ⟨_,rfl,fun j k hj hk=>?_⟩
   unfold fillT
   rw [ble_d,decide_eq_false (by omega:¬ (kpF p l l.length).length≤j)]
   simp only [Bool.false_and,Bool.and_false,cond_false]
   unfold atL kpA
   rw [List.getElem?_append_left hj]
  ·have hjt:i0+1+t < l.length:=by omega
   have hx:=List.getElem?_eq_getElem hjt
   obtain ⟨x,hxe⟩:∃ x,x=l[i0+1+t]:=⟨_,rfl⟩
   rw [← hxe] at hx
   have hAx:(kpA p l (i0+1+t))[i0+1+t]?=some x:=by rw [kpA_get p l (Nat.le_of_lt hjt),hx]
   have hle:=kpF_len p l (Nat.le_of_lt hjt)
   have hF:=kpF_next p hx
   have hA:=kpA_next p hx
   have q0:(kpF p l (i0+1+t)).length < l.length:=by omega
   have w1:IntKind.i64.wrap (((i0+1+t:Nat):Int)+1)=((i0+1+(t+1):Nat):Int):=wrapS (by omega)
   have w2:IntKind.i64.wrap (((kpF p l (i0+1+t)).length:Int)+1)=(((kpF p l (i0+1+t)).length+1:Nat):Int):=wrapS (by omega)
   have e1:i0+1+(t+1)=i0+1+t+1:=by omega
   rw [round_delH_1]
   simp only [rsx0,hjt,q0,atL_of hAx,Hd.cs,w1,w2,int_eq,cond_tf,cond_bf,dec_and,hd_e1]
   rw [e1,hF,hA]
   have hpx:p x=!decide (some x=some h):=by rw [hp];simp
   rw [← hpx]
   cases hb:p x with
   | false=>rfl
   | true =>
    simp only [cond_true]
    have hFl:(kpF p l (i0+1+t)).length < (kpA p l (i0+1+t)).length:=by rw [kpA_len p l (Nat.le_of_lt hjt)];exact q0
    obtain ⟨y,hy⟩:∃ y,(kpA p l (i0+1+t))[(kpF p l (i0+1+t)).length]?=some y:=⟨_,List.getElem?_eq_getElem hFl⟩
    rw [setF_list (y:={ y with slot:=x.slot }) hy rfl (by decide:0 < 2),setF_list (y:=x) (set_getH hy) rfl (by decide:1 < 2),List.set_set,List.length_append]
    rfl
  ·have e1:i0+1+(l.length - (i0+1))=l.length:=by omega
   rw [round_delH_1]
   simp only [e1,lt_d,Nat.lt_irrefl,decide_false,cond_false]
 ·have hff:f_delH (l,h)=l:=by
   unfold f_delH
   refine List.filter_eq_self.2 fun x hx=>?_
   simp only [Bool.not_eq_true',decide_eq_false_iff_not]
   intro e'
   have e':x=h:=e'
   rw [e'] at hx
   exact hn hx
  rw [e,hff]
  simp only [decide_true,cond_true]
  exact ⟨_,rfl,fun _ _ _ _=>rfl⟩
theorem s_delH:EntOk prog i_delH e_delH:=ent_ok ea_delH_inj fun x hx=>by
 obtain ⟨g,hb,hg⟩:=body_delH x.1 x.2 hx
 exact Sound.cut1 (body_sound (φ:=tb28) (tabS_cons s_ixHd (tabS_cons s_Give2 tabS_nil)) mixed (kp:=kp_delH) (n:=x.1.length+1) func132 (c:=bodyOf F_delH) (by kernel_rfl) hb (name_ok (by kernel_rfl))) hg
end Go.Mach.F
namespace Go.Mach.F
open Go Go.Mach Go.Proofs.Tryz Go.IntKind
--=set_option maxRecDepth 100000
def i_ConH:Nat:=131
noncomputable abbrev F_ConH:Func:=f131
def kp_ConH:List (Nat × List Nat):=[(0,[0,12,13]),(1,[16])]
noncomputable def e_ConH:Ent:=inl [] prog (tabS [(i_idHd,e_idHd)]) kp_ConH 0 F_ConH
theorem s_ConH:EntOk prog i_ConH e_ConH:=inl_ok (tabS_cons s_idHd tabS_nil) mixed (c:=bodyOf F_ConH) func131 (by kernel_rfl) (name_ok (by kernel_rfl))
def allK (rs:List Rm):List Hd:=rs.flatMap Rm.kids
def tlK (rs:List Rm) (h:Hd):Nat:=bif decide (rof rs h < 0) then 0 else (rs.getD (rof rs h).toNat zRm).tags.length
def gatH:Nat→List Rm→Hd→List Hd × List Int→List Hd × List Int
 | 0,_,_,a=>a
 | n+1,rs,h,a=>bif hasH a.1 h then a else bif decide (rof rs h < 0) then (a.1 ++ [h],a.2) else (rs.getD (rof rs h).toNat zRm).kids.foldl (fun a kid=>gatH n rs kid a) (a.1 ++ [h],a.2 ++ (rs.getD (rof rs h).toNat zRm).tags.reverse)
def toldS:Nat→List Rm→Hd→List Hd→List Int × List Hd
 | 0,_,_,a=>([],a)
 | n+1,rs,h,a=>bif decide (rof rs h < 0) || hasH a h then ([],a) else (rs.getD (rof rs h).toNat zRm).kids.foldl (fun b kid=>(b.1 ++ (toldS n rs kid b.2).1,(toldS n rs kid b.2).2)) ((rs.getD (rof rs h).toNat zRm).tags.reverse,a ++ [h])
def sumL (f:Hd→Nat) (l:List Hd):Nat:=(l.map f).foldr (·+·) 0
/-- What a walk down has met: handles of the model, or the first one, each once. -/
structure MetOk (rs:List Rm) (h0:Hd) (met:List Hd):Prop where
 nd:met.Nodup
 sub:∀ x∈met,x=h0∨x∈allK rs
structure GatOk (k:Nat) (m:Ml) (h:Hd) (met:List Hd):Prop where
 rooms:ok_RmS m.rooms
 kids:(allK m.rooms).length < LM
 tags:cntL (fun r=>r.tags.length) m.rooms≤LM
 walk:∃ h0,MetOk m.rooms h0 met∧(h=h0∨h∈allK m.rooms)
 fuel:(allK m.rooms).length+2≤met.length+k
def ok_gat (k:Nat) (x:Ml × Hd × List Hd × List Int):Prop:=GatOk k x.1 x.2.1 x.2.2.1∧x.2.2.2.length≤sumL (tlK x.1.rooms) x.2.2.1
def ea_gat (x:Ml × Hd × List Hd × List Int):List Arg:=[aR x.1.cs,aR x.2.1.cs,vT (eL 2 Hd.cs x.2.2.1),vT (eI x.2.2.2)]
def f_gat (k:Nat) (x:Ml × Hd × List Hd × List Int):List Hd × List Int:=gatH k x.1.rooms x.2.1 (x.2.2.1,x.2.2.2)
noncomputable def e_gat (k:Nat):Ent:=ent [0,0,3,3] (ok_gat k) ea_gat (fun (x:List Hd × List Int)=>([oT (eL 2 Hd.cs x.1),oT (eI x.2)],[nul,nul,nul,nul])) (f_gat k)
def ok_told (k:Nat) (x:Ml × Hd × List Hd):Prop:=GatOk k x.1 x.2.1 x.2.2
def ea_told (x:Ml × Hd × List Hd):List Arg:=[aR x.1.cs,aR x.2.1.cs,vT (eL 2 Hd.cs x.2.2)]
def f_told (k:Nat) (x:Ml × Hd × List Hd):List Int × List Hd:=toldS k x.1.rooms x.2.1 x.2.2
noncomputable def e_told (k:Nat):Ent:=ent [0,0,3] (ok_told k) ea_told (fun (x:List Int × List Hd)=>([oT (eI x.1),oT (eL 2 Hd.cs x.2)],[nul,nul,nul])) (f_told k)
theorem ea_gat_inj (x y:Ml × Hd × List Hd × List Int) (h:ea_gat x=ea_gat y):x=y:=by
 obtain ⟨m1,h1,a1,b1⟩:=x
 obtain ⟨m2,h2,a2,b2⟩:=y
 simp only [ea_gat,List.cons.injEq,and_true,true_and] at h
 obtain ⟨e0,e1,e2,e3⟩:=h
 obtain rfl:=Ml.cs_ext (aR_inj e0)
 obtain rfl:=Hd.cs_ext (aR_inj e1)
 obtain rfl:=eL_inj Hd.cs_inj (vT_inj e2)
 obtain rfl:=eI_inj (vT_inj e3)
 rfl
theorem ea_told_inj (x y:Ml × Hd × List Hd) (h:ea_told x=ea_told y):x=y:=by
 obtain ⟨m1,h1,a1⟩:=x
 obtain ⟨m2,h2,a2⟩:=y
 simp only [ea_told,List.cons.injEq,and_true,true_and] at h
 obtain ⟨e0,e1,e2⟩:=h
 obtain rfl:=Ml.cs_ext (aR_inj e0)
 obtain rfl:=Hd.cs_ext (aR_inj e1)
 obtain rfl:=eL_inj Hd.cs_inj (vT_inj e2)
 rfl
theorem dm_gat {k:Nat} {m:Ml} {h:Hd} {a:List Hd} {b:List Int} (h0:ok_gat k (m,h,a,b)):dom (ok_gat k) ea_gat [(wMl m),(wHd h),(3,false,[C.tr true (T.arr 2 a.length (atL Hd.cs a))]),(3,false,[C.tr true (T.arr 1 b.length (atL rowI b))])]=true:=dom_ea (ea:=ea_gat) (x:=(m,h,a,b)) h0
theorem iv_gat {k:Nat} {m:Ml} {h:Hd} {a:List Hd} {b:List Int} (h0:ok_gat k (m,h,a,b)):inv (ok_gat k) ea_gat [(wMl m),(wHd h),(3,false,[C.tr true (T.arr 2 a.length (atL Hd.cs a))]),(3,false,[C.tr true (T.arr 1 b.length (atL rowI b))])]=(m,h,a,b):=inv_ea ea_gat_inj (x:=(m,h,a,b)) h0
theorem dm_told {k:Nat} {m:Ml} {h:Hd} {a:List Hd} (h0:ok_told k (m,h,a)):dom (ok_told k) ea_told [(wMl m),(wHd h),(3,false,[C.tr true (T.arr 2 a.length (atL Hd.cs a))])]=true:=dom_ea (ea:=ea_told) (x:=(m,h,a)) h0
theorem iv_told {k:Nat} {m:Ml} {h:Hd} {a:List Hd} (h0:ok_told k (m,h,a)):inv (ok_told k) ea_told [(wMl m),(wHd h),(3,false,[C.tr true (T.arr 2 a.length (atL Hd.cs a))])]=(m,h,a):=inv_ea ea_told_inj (x:=(m,h,a)) h0
def i_gat:Nat:=128
noncomputable abbrev F_gat:Func:=f128
def kp_gat:List (Nat × List Nat):=[(0,[8,12,16,17,20,21,10,14]),(1,[8,12,16,17,20,21,60,10,14]),(2,[32,36,10,14]),(3,[8,12,16,17,20,21,10,14]),(4,[8,12,16,17,40,10,14]),(5,[8,12,16,17,40,104,10,14]),(6,[32,36,10,14]),(7,[8,12,16,17,40,10,14]),(8,[8,12,16,17,152,156,160,164,168,172,176,180,10,14]),(9,[8,12,16,17,152,156,160,164,168,172,176,180,184,10,14]),(10,[8,12,16,17,48,49,152,156,160,164,168,172,176,180,10,14]),(11,[8,12,16,17,152,156,160,164,168,172,176,180,10,14]),(12,[8,12,16,17,152,156,160,164,168,172,176,180,10,14]),(13,[32,36,10,14])]
def ts_gat:List Nat:=[0,0,3,3]
def st_gat_1 (k:Nat) (m:Ml) (h:Hd) (a:List Hd) (b:List Int) (r2:Int) (nx8:Nat) (fx8:Nat→Nat→T) (nx12:Nat) (fx12:Nat→Nat→T) (x180:Int):St:=[(8,⟨z0,[(false,[.tr true (.arr (2) (nx8) (fx8))])]⟩),(12,⟨z0,[(false,[.tr true (.arr (1) (nx12) (fx12))])]⟩),(16,⟨z0,[(false,[(C.pt (Pt.ptr 17 0 [] 8 0 0))])]⟩),(17,⟨z0,[(true,[.tr true (T.int i64 m.c.1),.tr true (T.int i64 m.c.2),.tr true (T.int i64 m.c.3),.tr true (T.int i64 m.c.4),.tr true (T.int i64 m.c.5),.tr true (T.int i64 m.c.6),.tr false (eL 11 Rm.cs m.2),.tr false (eL 1 rowI m.3)])]⟩),(152,⟨z0,[(false,[(C.pt (Pt.ptr 17 0 [] 8 0 6))])]⟩),(156,⟨z0,[(false,[.tr false (eL 11 Rm.cs m.2)])]⟩),(160,⟨z0,[(false,[.tr true (T.int i64 r2)])]⟩),(164,⟨z0,[(false,[(C.pt (Pt.pim 11 (atL Rm.cs m.2 r2.toNat)))])]⟩),(168,⟨z0,[(false,[(C.pt (Pt.pim 7 fun i=>atL Rm.cs m.2 r2.toNat (4+i)))])]⟩),(172,⟨z0,[(false,[.tr false (.arr (2) ((atL Rm.cs m.2 r2.toNat 4).ln) ((atL Rm.cs m.2 r2.toNat 4).fn))])]⟩),(176,⟨z0,[(false,[.tr true (T.int i64 (↑(atL Rm.cs m.2 r2.toNat 4).ln:Int))])]⟩),(180,⟨z0,[(false,[.tr true (T.int i64 x180)])]⟩)]
def ex_gat_1_1 (k:Nat) (m:Ml) (h:Hd) (a:List Hd) (b:List Int) (r2:Int) (nx8:Nat) (fx8:Nat→Nat→T) (nx12:Nat) (fx12:Nat→Nat→T) (x180:Int):St:=[(8,⟨z0,[(false,[.tr true (.arr (2) (nx8) (fx8))])]⟩),(12,⟨z0,[(false,[.tr true (.arr (1) (nx12) (fx12))])]⟩),(16,⟨z0,[(false,[(C.pt (Pt.ptr 17 0 [] 8 0 0))])]⟩),(17,⟨z0,[(true,[.tr true (T.int i64 m.c.1),.tr true (T.int i64 m.c.2),.tr true (T.int i64 m.c.3),.tr true (T.int i64 m.c.4),.tr true (T.int i64 m.c.5),.tr true (T.int i64 m.c.6),.tr false (eL 11 Rm.cs m.2),.tr false (eL 1 rowI m.3)])]⟩),(152,⟨z0,[(false,[(C.pt (Pt.ptr 17 0 [] 8 0 6))])]⟩),(156,⟨z0,[(false,[.tr false (eL 11 Rm.cs m.2)])]⟩),(160,⟨z0,[(false,[.tr true (T.int i64 r2)])]⟩),(164,⟨z0,[(false,[(C.pt (Pt.pim 11 (atL Rm.cs m.2 r2.toNat)))])]⟩),(168,⟨z0,[(false,[(C.pt (Pt.pim 7 fun i=>atL Rm.cs m.2 r2.toNat (4+i)))])]⟩),(172,⟨z0,[(false,[.tr false (.arr (2) ((atL Rm.cs m.2 r2.toNat 4).ln) ((atL Rm.cs m.2 r2.toNat 4).fn))])]⟩),(176,⟨z0,[(false,[.tr true (T.int i64 (↑(atL Rm.cs m.2 r2.toNat 4).ln:Int))])]⟩),(180,⟨z0,[(false,[.tr true (T.int i64 x180)])]⟩),(184,⟨z0,[]⟩)]
theorem round_gat_1 (k:Nat) (m:Ml) (h:Hd) (a:List Hd) (b:List Int) (r2:Int) (nx8:Nat) (fx8:Nat→Nat→T) (nx12:Nat) (fx12:Nat→Nat→T) (x180:Int) (n:Nat) (K:Ex→St→Res):roundAt prog (tabS [(i_ConH,e_ConH),(i_iRoomOf,e_iRoomOf),(i_iTagsDown,e_iTagsDown),(i_gat,e_gat k)]) kp_gat F_gat (ons 6 [0,1,0]) n (st_gat_1 k m h a b r2 nx8 fx8 nx12 fx12 x180) K=(bif decide (x180 < (↑(atL Rm.cs m.2 r2.toNat 4).ln:Int)) then gd (decide (0≤x180)&&(x180.toNat.blt (atL Rm.cs m.2 r2.toNat 4).ln&&true))<|gd (T.isI i64 ((atL Rm.cs m.2 r2.toNat 4).fn x180.toNat 0)&&T.isI i64 ((atL Rm.cs m.2 r2.toNat 4).fn x180.toNat 1))<|gl nx8<|gl nx12<|entK (ok_gat k) ea_gat (f_gat k) [(wMl m),(0,true,[C.tr false (T.int i64 ((atL Rm.cs m.2 r2.toNat 4).fn x180.toNat 0).toI),C.tr false (T.int i64 ((atL Rm.cs m.2 r2.toNat 4).fn x180.toNat 1).toI)]),(3,false,[C.tr true (T.arr 2 nx8 fx8)]),(3,false,[C.tr true (T.arr 1 nx12 fx12)])] fun (r4:List Hd × List Int)=>gl r4.1.length<|gl r4.2.length<|K .normal (st_gat_1 k m h a b r2 (r4.1.length) ((eL 2 Hd.cs r4.1).fn) (r4.2.length) (atL rowI r4.2) (i64.wrap (x180+1))) else K (.exit 0) (ex_gat_1_1 k m h a b r2 nx8 fx8 nx12 fx12 x180)):=by kernel_rfl
theorem post_gat_1_1 (k:Nat) (m:Ml) (h:Hd) (a:List Hd) (b:List Int) (r2:Int) (nx8:Nat) (fx8:Nat→Nat→T) (nx12:Nat) (fx12:Nat→Nat→T) (x180:Int) (n:Nat):contAt prog (tabS [(i_ConH,e_ConH),(i_iRoomOf,e_iRoomOf),(i_iTagsDown,e_iTagsDown),(i_gat,e_gat k)]) kp_gat F_gat ts_gat (ons 6 [0,1,0]) [] n (.exit 0) (ex_gat_1_1 k m h a b r2 nx8 fx8 nx12 fx12 x180)=(gl nx8<|gl nx12<|gl nx8<|gl nx12<|some ([(false,[.tr true (.arr (2) (nx8) (fx8))]),(false,[.tr true (.arr (1) (nx12) (fx12))])],[(false,[]),(false,[]),(false,[]),(false,[])])):=by kernel_rfl
theorem pre_gat (k:Nat) (m:Ml) (h:Hd) (a:List Hd) (b:List Int) (n:Nat):body prog (tabS [(i_ConH,e_ConH),(i_iRoomOf,e_iRoomOf),(i_iTagsDown,e_iTagsDown),(i_gat,e_gat k)]) kp_gat n F_gat [aR m.cs,aR h.cs,vT (eL 2 Hd.cs a),vT (eI b)]=(let q0:=appF a.length (eL 2 Hd.cs a).fn (plainF (cutT 0 1 (rowsT [[T.int i64 h.1,T.int i64 h.2]])));gd ((0+a.length).ble a.length)<|entK ok_idHd ea_idHd (f_idHd) [(0,false,[C.tr false (T.arr 2 a.length (cutT 0 a.length (eL 2 Hd.cs a).fn))]),(wHd h)] fun (r1:Int)=>bif decide (0≤r1) then gl a.length<|gl b.length<|gl a.length<|gl b.length<|some ([(false,[.tr true (.arr (2) (a.length) ((eL 2 Hd.cs a).fn))]),(false,[.tr true (.arr (1) (b.length) (atL rowI b))])],[(false,[]),(false,[]),(false,[]),(false,[])]) else gl a.length<|gd (((a.length+1) * 16).ble 70368744177664&&(a.length+1).ble 70368744177664)<|gd ((a.length+1).ble (a.length+1)&&true)<|entK ok_iRoomOf ea_iRoomOf (f_iRoomOf) [(wMl m),(wHd h)] fun (r2:Int)=>bif decide (r2 < 0) then gd ((a.length+1).ble (a.length+1)&&true)<|gl b.length<|gd ((a.length+1).ble (a.length+1)&&true)<|gl b.length<|some ([(false,[.tr true (.arr (2) (a.length+1) q0)]),(false,[.tr true (.arr (1) (b.length) (atL rowI b))])],[(false,[]),(false,[]),(false,[]),(false,[])]) else gd (decide (0≤r2)&&(r2.toNat.blt m.2.length&&true))<|gd ((atL Rm.cs m.2 r2.toNat 10).isArr&&(atL Rm.cs m.2 r2.toNat 10).wd.beq 1)<|entK ok_iTagsDown ea_iTagsDown (f_iTagsDown) [(0,false,[C.tr false (T.arr 1 (atL Rm.cs m.2 r2.toNat 10).ln (atL Rm.cs m.2 r2.toNat 10).fn)])] fun (r3:List Int)=>gl b.length<|gd ((0+r3.length).ble r3.length)<|gd (((b.length+r3.length) * 8).ble 70368744177664&&(b.length+r3.length).ble 70368744177664)<|gd ((b.length+r3.length).ble (b.length+r3.length)&&true)<|gd (decide (0≤r2)&&(r2.toNat.blt m.2.length&&true))<|gd ((atL Rm.cs m.2 r2.toNat 4).isArr&&(atL Rm.cs m.2 r2.toNat 4).wd.beq 2)<|loopAt prog (tabS [(i_ConH,e_ConH),(i_iRoomOf,e_iRoomOf),(i_iTagsDown,e_iTagsDown),(i_gat,e_gat k)]) kp_gat F_gat (ons 6 [0,1,0]) n n (st_gat_1 k m h a b r2 (a.length+1) q0 (b.length+r3.length) (appF b.length (atL rowI b) (plainF (cutT 0 r3.length (atL rowI r3)))) (0)) (contAt prog (tabS [(i_ConH,e_ConH),(i_iRoomOf,e_iRoomOf),(i_iTagsDown,e_iTagsDown),(i_gat,e_gat k)]) kp_gat F_gat ts_gat (ons 6 [0,1,0]) [] n)):=by kernel_rfl
def i_told:Nat:=107
noncomputable abbrev F_told:Func:=f107
def kp_told:List (Nat × List Nat):=[(0,[8,12,13,16,17,76,80,84,10]),(1,[8,12,13,16,17,32,76,80,84,10]),(2,[8,12,13,16,17,32,88,10]),(3,[24,28,10]),(4,[8,12,13,32,10]),(5,[8,12,13,32,36,10]),(6,[8,12,13,32,36,40,10]),(7,[8,12,13,32,36,40,184,10]),(8,[8,12,13,32,36,40,10]),(9,[12,13,32,36,40,44,48,10]),(10,[12,13,32,36,40,48,10]),(11,[8,12,13,32,36,40,10]),(12,[24,28,10])]
def ts_told:List Nat:=[0,0,3]
def st_told_1 (k:Nat) (m:Ml) (h:Hd) (a:List Hd) (r1:Int) (nx8:Nat) (fx8:Nat→Nat→T) (nx36:Nat) (fx36:Nat→Nat→T) (x40:Int):St:=[(8,⟨z0,[(false,[.tr true (.arr (2) (nx8) (fx8))])]⟩),(12,⟨z0,[(false,[(C.pt (Pt.ptr 13 0 [] 8 0 0))])]⟩),(13,⟨z0,[(true,[.tr true (T.int i64 m.c.1),.tr true (T.int i64 m.c.2),.tr true (T.int i64 m.c.3),.tr true (T.int i64 m.c.4),.tr true (T.int i64 m.c.5),.tr true (T.int i64 m.c.6),.tr false (eL 11 Rm.cs m.2),.tr false (eL 1 rowI m.3)])]⟩),(32,⟨z0,[(false,[.tr true (T.int i64 r1)])]⟩),(36,⟨z0,[(false,[.tr true (.arr (1) (nx36) (fx36))])]⟩),(40,⟨z0,[(false,[.tr true (T.int i64 x40)])]⟩)]
def ex_told_1_1 (k:Nat) (m:Ml) (h:Hd) (a:List Hd) (r1:Int) (nx8:Nat) (fx8:Nat→Nat→T) (nx36:Nat) (fx36:Nat→Nat→T) (x40:Int):St:=[(8,⟨z0,[(false,[.tr true (.arr (2) (nx8) (fx8))])]⟩),(12,⟨z0,[(false,[(C.pt (Pt.ptr 13 0 [] 8 0 0))])]⟩),(13,⟨z0,[(true,[.tr true (T.int i64 m.c.1),.tr true (T.int i64 m.c.2),.tr true (T.int i64 m.c.3),.tr true (T.int i64 m.c.4),.tr true (T.int i64 m.c.5),.tr true (T.int i64 m.c.6),.tr false (eL 11 Rm.cs m.2),.tr false (eL 1 rowI m.3)])]⟩),(32,⟨z0,[(false,[.tr true (T.int i64 r1)])]⟩),(36,⟨z0,[(false,[.tr true (.arr (1) (nx36) (fx36))])]⟩),(40,⟨z0,[(false,[.tr true (T.int i64 x40)])]⟩),(184,⟨z0,[]⟩)]
theorem round_told_1 (k:Nat) (m:Ml) (h:Hd) (a:List Hd) (r1:Int) (nx8:Nat) (fx8:Nat→Nat→T) (nx36:Nat) (fx36:Nat→Nat→T) (x40:Int) (n:Nat) (K:Ex→St→Res):roundAt prog (tabS [(i_sRoomOf,e_sRoomOf),(i_sHasH,e_sHasH),(i_sTagsDown,e_sTagsDown),(i_told,e_told k)]) kp_told F_told (ons 5 [0,1,0]) n (st_told_1 k m h a r1 nx8 fx8 nx36 fx36 x40) K=(gd (decide (0≤r1)&&(r1.toNat.blt m.2.length&&true))<|gd ((atL Rm.cs m.2 r1.toNat 4).isArr&&(atL Rm.cs m.2 r1.toNat 4).wd.beq 2)<|bif decide (x40 < (↑(atL Rm.cs m.2 r1.toNat 4).ln:Int)) then gd (decide (0≤r1)&&(r1.toNat.blt m.2.length&&true))<|gd ((atL Rm.cs m.2 r1.toNat 4).isArr&&(atL Rm.cs m.2 r1.toNat 4).wd.beq 2)<|gd (decide (0≤x40)&&(x40.toNat.blt (atL Rm.cs m.2 r1.toNat 4).ln&&true))<|gd (T.isI i64 ((atL Rm.cs m.2 r1.toNat 4).fn x40.toNat 0)&&T.isI i64 ((atL Rm.cs m.2 r1.toNat 4).fn x40.toNat 1))<|gl nx8<|entK (ok_told k) ea_told (f_told k) [(wMl m),(0,true,[C.tr false (T.int i64 ((atL Rm.cs m.2 r1.toNat 4).fn x40.toNat 0).toI),C.tr false (T.int i64 ((atL Rm.cs m.2 r1.toNat 4).fn x40.toNat 1).toI)]),(3,false,[C.tr true (T.arr 2 nx8 fx8)])] fun (r4:List Int × List Hd)=>gl r4.1.length<|gl r4.2.length<|gl nx36<|gd ((0+r4.1.length).ble r4.1.length)<|gd (((nx36+r4.1.length) * 8).ble 70368744177664&&(nx36+r4.1.length).ble 70368744177664)<|gd ((nx36+r4.1.length).ble (nx36+r4.1.length)&&true)<|gl r4.2.length<|K .normal (st_told_1 k m h a r1 (r4.2.length) ((eL 2 Hd.cs r4.2).fn) (nx36+r4.1.length) (appF nx36 fx36 (plainF (cutT 0 r4.1.length (atL rowI r4.1)))) (i64.wrap (x40+1))) else K (.exit 0) (ex_told_1_1 k m h a r1 nx8 fx8 nx36 fx36 x40)):=by kernel_rfl
theorem post_told_1_1 (k:Nat) (m:Ml) (h:Hd) (a:List Hd) (r1:Int) (nx8:Nat) (fx8:Nat→Nat→T) (nx36:Nat) (fx36:Nat→Nat→T) (x40:Int) (n:Nat):contAt prog (tabS [(i_sRoomOf,e_sRoomOf),(i_sHasH,e_sHasH),(i_sTagsDown,e_sTagsDown),(i_told,e_told k)]) kp_told F_told ts_told (ons 5 [0,1,0]) [] n (.exit 0) (ex_told_1_1 k m h a r1 nx8 fx8 nx36 fx36 x40)=(gl nx36<|gl nx8<|gl nx36<|gl nx8<|some ([(false,[.tr true (.arr (1) (nx36) (fx36))]),(false,[.tr true (.arr (2) (nx8) (fx8))])],[(false,[]),(false,[]),(false,[])])):=by kernel_rfl
theorem pre_told (k:Nat) (m:Ml) (h:Hd) (a:List Hd) (n:Nat):body prog (tabS [(i_sRoomOf,e_sRoomOf),(i_sHasH,e_sHasH),(i_sTagsDown,e_sTagsDown),(i_told,e_told k)]) kp_told n F_told [aR m.cs,aR h.cs,vT (eL 2 Hd.cs a)]=(entK ok_sRoomOf ea_sRoomOf (f_sRoomOf) [(wMl m),(wHd h)] fun (r1:Int)=>bif decide (r1 < 0) then gl a.length<|gl a.length<|some ([(false,[.tr true (.arr (1) (0) (rowsT []))]),(false,[.tr true (.arr (2) (a.length) ((eL 2 Hd.cs a).fn))])],[(false,[]),(false,[]),(false,[])]) else gd ((0+a.length).ble a.length)<|entK ok_sHasH ea_sHasH (f_sHasH) [(0,false,[C.tr false (T.arr 2 a.length (cutT 0 a.length (eL 2 Hd.cs a).fn))]),(wHd h)] fun (r2:Bool)=>bif r2 then gl a.length<|gl a.length<|some ([(false,[.tr true (.arr (1) (0) (rowsT []))]),(false,[.tr true (.arr (2) (a.length) ((eL 2 Hd.cs a).fn))])],[(false,[]),(false,[]),(false,[])]) else gd ((0+a.length).ble a.length)<|gd (((0+a.length) * 16).ble 70368744177664&&(0+a.length).ble 70368744177664)<|gd ((0+a.length).ble (0+a.length)&&true)<|gd (((0+a.length+1) * 16).ble 70368744177664&&(0+a.length+1).ble 70368744177664)<|gd ((0+a.length+1).ble (0+a.length+1)&&true)<|gd (decide (0≤r1)&&(r1.toNat.blt m.2.length&&true))<|gd ((atL Rm.cs m.2 r1.toNat 10).isArr&&(atL Rm.cs m.2 r1.toNat 10).wd.beq 1)<|entK ok_sTagsDown ea_sTagsDown (f_sTagsDown) [(0,false,[C.tr false (T.arr 1 (atL Rm.cs m.2 r1.toNat 10).ln (atL Rm.cs m.2 r1.toNat 10).fn)])] fun (r3:List Int)=>gl r3.length<|loopAt prog (tabS [(i_sRoomOf,e_sRoomOf),(i_sHasH,e_sHasH),(i_sTagsDown,e_sTagsDown),(i_told,e_told k)]) kp_told F_told (ons 5 [0,1,0]) n n (st_told_1 k m h a r1 (0+a.length+1) (appF (0+a.length) (appF 0 (rowsT []) (plainF (cutT 0 a.length (eL 2 Hd.cs a).fn))) (plainF (cutT 0 1 (rowsT [[T.int i64 h.1,T.int i64 h.2]])))) (r3.length) (atL rowI r3) (0)) (contAt prog (tabS [(i_sRoomOf,e_sRoomOf),(i_sHasH,e_sHasH),(i_sTagsDown,e_sTagsDown),(i_told,e_told k)]) kp_told F_told ts_told (ons 5 [0,1,0]) [] n)):=by kernel_rfl
end Go.Mach.F
namespace Go.Mach.F
open Go Go.Mach Go.Proofs.Tryz
theorem rof_of (l:List Rm) (h:Hd):(∃ i:Nat,rof l h=(i:Int)∧l[i]?.map Rm.h=some h∧i < l.length∧∀ j,j < i→l[j]?.map Rm.h≠some h)∨(rof l h=-1∧∀ j:Nat,l[j]?.map Rm.h≠some h):=by
 unfold rof
 cases hf:(List.range l.length).find? (fun i=>decide (l[i]?.map Rm.h=some h)) with
 | some i =>
  obtain ⟨h1,h2,h3⟩:=List.find?_range_eq_some.1 hf
  refine .inl ⟨i,rfl,of_decide_eq_true h1,List.mem_range.1 h2,fun j hj e=>?_⟩
  have:=h3 j hj
  simp [e] at this
 | none =>
  refine .inr ⟨rfl,fun j e=>?_⟩
  by_cases hj:j < l.length
  ·have:=List.find?_eq_none.1 hf j (List.mem_range.2 hj)
   simp only [decide_eq_true_eq] at this
   exact this e
  ·rw [List.getElem?_eq_none (by omega)] at e
   cases e
theorem rof_cons (r:Rm) (rs:List Rm) (h:Hd):rof (r :: rs) h=if r.h=h then 0 else if rof rs h < 0 then -1 else rof rs h+1:=by
 rcases rof_of (r :: rs) h with ⟨i,e,hi,hl,hn⟩ | ⟨e,hn⟩
 ·rw [e]
  cases i with
  | zero =>
   simp at hi
   rw [if_pos hi]
   rfl
  | succ i =>
   have h0:=hn 0 (by omega)
   simp at h0
   rw [if_neg h0]
   rcases rof_of rs h with ⟨i',e',hi',hl',hn'⟩ | ⟨e',hn'⟩
   ·rw [e',if_neg (by omega)]
    have:i'=i:=by
     simp only [List.getElem?_cons_succ] at hi
     rcases Nat.lt_trichotomy i' i with h1 | h1 | h1
     ·exact absurd (by simpa using hi') (hn (i'+1) (by omega))
     ·exact h1
     ·exact absurd hi (hn' i h1)
    rw [this]
    rfl
   ·simp only [List.getElem?_cons_succ] at hi
    exact absurd hi (hn' i)
 ·rw [e]
  have h0:=hn 0
  simp at h0
  rw [if_neg h0]
  rcases rof_of rs h with ⟨i',e',hi',hl',hn'⟩ | ⟨e',hn'⟩
  ·exact absurd (by simpa using hi') (hn (i'+1))
  ·rw [e']
   rfl
theorem tlK_cons (r:Rm) (rs:List Rm) (h:Hd):tlK (r :: rs) h=if r.h=h then r.tags.length else tlK rs h:=by
 unfold tlK
 rw [rof_cons]
 by_cases h1:r.h=h
 ·rw [if_pos h1,if_pos h1]
  rfl
 ·rw [if_neg h1,if_neg h1]
  by_cases h2:rof rs h < 0
  ·rw [if_pos h2,decide_eq_true h2]
   rfl
  ·rw [if_neg h2,decide_eq_false h2,decide_eq_false (by omega)]
   have:(rof rs h+1).toNat=(rof rs h).toNat+1:=by omega
   rw [this]
   rfl
theorem sumL_cons (f:Hd→Nat) (x:Hd) (l:List Hd):sumL f (x :: l)=f x+sumL f l:=rfl
theorem sumL_app (f:Hd→Nat) (l l':List Hd):sumL f (l ++ l')=sumL f l+sumL f l':=by
 induction l with
 | nil=>simp [sumL]
 | cons x l ih=>rw [List.cons_append,sumL_cons,sumL_cons,ih,Nat.add_assoc]
theorem sumL_off {r:Rm} {rs:List Rm} {l:List Hd} (h:r.h ∉ l):sumL (tlK (r :: rs)) l=sumL (tlK rs) l:=by
 induction l with
 | nil=>rfl
 | cons x l ih =>
  rw [sumL_cons,sumL_cons,tlK_cons,if_neg (fun e=>h (by rw [e];exact List.mem_cons_self)),ih fun hm=>h (List.mem_cons_of_mem _ hm)]
theorem sumL_on {r:Rm} {rs:List Rm} {l:List Hd} (h:l.Nodup):sumL (tlK (r :: rs)) l≤r.tags.length+sumL (tlK rs) l:=by
 induction l with
 | nil=>exact Nat.zero_le _
 | cons x l ih =>
  rw [List.nodup_cons] at h
  rw [sumL_cons,sumL_cons,tlK_cons]
  by_cases e:r.h=x
  ·rw [if_pos e,sumL_off (by rw [e];exact h.1)]
   omega
  ·rw [if_neg e]
   have:=ih h.2
   omega
theorem sumL_le (rs:List Rm) {l:List Hd} (h:l.Nodup):sumL (tlK rs) l≤cntL (fun r=>r.tags.length) rs:=by
 induction rs with
 | nil =>
  have:∀ l:List Hd,sumL (tlK []) l=0:=fun l=>by
   induction l with
   | nil=>rfl
   | cons x l ih=>rw [sumL_cons,ih];rfl
  rw [this]
  exact Nat.zero_le _
 | cons r rs ih =>
  have:=sumL_on (r:=r) (rs:=rs) h
  unfold cntL
  omega
theorem nodup_len:∀ {U l:List Hd},l.Nodup→(∀ x∈l,x∈U)→l.length≤U.length
 | [],l,_,hs=>by
  have:l=[]:=List.eq_nil_iff_forall_not_mem.2 fun x hx=>by simpa using hs x hx
  rw [this]
  exact Nat.le_refl _
 | u :: U,l,h,hs=>by
  have h1:=nodup_len (U:=U) (l:=l.erase u) (h.erase u) fun x hx=>by
   rw [h.mem_erase_iff] at hx
   exact (List.mem_cons.1 (hs x hx.2)).resolve_left hx.1
  rw [List.length_erase] at h1
  simp only [List.length_cons]
  split at h1 <;> omega
theorem MetOk.len {rs:List Rm} {h0:Hd} {met:List Hd} (h:MetOk rs h0 met):met.length≤(allK rs).length+1:=by
 have:=nodup_len (U:=h0 :: allK rs) h.nd fun x hx=>by
  rcases h.sub x hx with rfl | h1
  ·exact List.mem_cons_self
  ·exact List.mem_cons_of_mem _ h1
 simpa using this
theorem MetOk.add {rs:List Rm} {h0 h:Hd} {met:List Hd} (hm:MetOk rs h0 met) (hh:h=h0∨h∈allK rs) (hn:h ∉ met):MetOk rs h0 (met ++ [h]) where
 nd:=by
  rw [List.nodup_append]
  refine ⟨hm.nd,by simp,fun a ha b hb=>?_⟩
  rw [List.mem_singleton] at hb
  subst hb
  intro e
  subst e
  exact hn ha
 sub:=fun x hx=>by
  rcases List.mem_append.1 hx with h1 | h1
  ·exact hm.sub x h1
  ·rw [List.mem_singleton.1 h1]
   exact hh
theorem kid_in {rs:List Rm} {r:Rm} {kid:Hd} (hr:r∈rs) (hk:kid∈r.kids):kid∈allK rs:=List.mem_flatMap.2 ⟨r,hr,hk⟩
theorem fold_inv {α β:Type} (P:β→Prop) (f:β→α→β):∀ (l:List α) (b:β),P b→(∀ b x,x∈l→P b→P (f b x))→P (l.foldl f b)
 | [],_,h,_=>h
 | x :: l,b,h,hf=>fold_inv P f l (f b x) (hf b x List.mem_cons_self h) fun b y hy=>hf b y (List.mem_cons_of_mem _ hy)
/-- What is kept along a walk. -/
def GatP (rs:List Rm) (h0:Hd) (n:Nat) (a:List Hd × List Int):Prop:=MetOk rs h0 a.1∧a.2.length≤sumL (tlK rs) a.1∧n≤a.1.length
theorem room_at {rs:List Rm} {h:Hd} (e:¬ rof rs h < 0):rs[(rof rs h).toNat]?=some (rs.getD (rof rs h).toNat zRm)∧rs.getD (rof rs h).toNat zRm∈rs∧tlK rs h=(rs.getD (rof rs h).toNat zRm).tags.length:=by
 have h1:=getD_get (rof_lt e).2
 exact ⟨h1,List.mem_of_getElem? h1,by unfold tlK;rw [decide_eq_false e];rfl⟩
theorem gat_start {rs:List Rm} {h0 h:Hd} {a:List Hd × List Int} {n:Nat} (hp:GatP rs h0 n a) (hh:h=h0∨h∈allK rs) (hn:h ∉ a.1) (e:¬ rof rs h < 0):GatP rs h0 (n+1) (a.1 ++ [h],a.2 ++ (rs.getD (rof rs h).toNat zRm).tags.reverse):=by
 refine ⟨hp.1.add hh hn,?_,?_⟩
 ·simp only [List.length_append,List.length_reverse,sumL_app]
  have:=hp.2.1
  have h3:=(room_at e).2.2
  have:sumL (tlK rs) [h]=tlK rs h:=by rw [sumL_cons];rfl
  omega
 ·have:=hp.2.2
  simp only [List.length_append,List.length_singleton]
  omega
theorem gatH_inv (rs:List Rm) (h0:Hd):∀ (n:Nat) (h:Hd) (a:List Hd × List Int) (k:Nat),GatP rs h0 k a→(h=h0∨h∈allK rs)→GatP rs h0 k (gatH n rs h a)
 | 0,_,_,_,hp,_=>hp
 | n+1,h,a,k,hp,hh=>by
  unfold gatH hasH
  by_cases h1:h∈a.1
  ·rw [decide_eq_true h1]
   exact hp
  ·rw [decide_eq_false h1,cond_false]
   by_cases h2:rof rs h < 0
   ·rw [decide_eq_true h2,cond_true]
    refine ⟨hp.1.add hh h1,?_,?_⟩
    ·simp only [sumL_app]
     have:=hp.2.1
     omega
    ·have:=hp.2.2
     simp only [List.length_append,List.length_singleton]
     omega
   ·rw [decide_eq_false h2,cond_false]
    have hs:=gat_start hp hh h1 h2
    have:=fold_inv (GatP rs h0 (k+1)) (fun a kid=>gatH n rs kid a) _ _ hs fun b x hx hb=>gatH_inv rs h0 n x b (k+1) hb (.inr (kid_in (room_at h2).2.1 hx))
    exact ⟨this.1,this.2.1,by have:=this.2.2;omega⟩
theorem take_fold {α β:Type} (f:β→α→β) {l:List α} {i:Nat} {x:α} (h:l[i]?=some x) (b:β):(l.take (i+1)).foldl f b=f ((l.take i).foldl f b) x:=by
 rw [List.take_add_one,h,List.foldl_append]
 rfl
/-- What is kept along the reference's walk. -/
def TolP (rs:List Rm) (h0:Hd) (n c:Nat) (b:List Int × List Hd):Prop:=MetOk rs h0 b.2∧b.1.length+c≤sumL (tlK rs) b.2∧n≤b.2.length
theorem toldS_inv (rs:List Rm) (h0:Hd):∀ (n:Nat) (h:Hd) (a:List Hd),MetOk rs h0 a→(h=h0∨h∈allK rs)→TolP rs h0 a.length (sumL (tlK rs) a) (toldS n rs h a)
 | 0,_,a,hm,_=>⟨hm,by simp [toldS],Nat.le_refl _⟩
 | n+1,h,a,hm,hh=>by
  unfold toldS hasH
  by_cases h2:rof rs h < 0
  ·rw [decide_eq_true h2,Bool.true_or,cond_true]
   exact ⟨hm,by simp,Nat.le_refl _⟩
  by_cases h1:h∈a
  ·rw [decide_eq_true h1,Bool.or_true,cond_true]
   exact ⟨hm,by simp,Nat.le_refl _⟩
  rw [decide_eq_false h2,decide_eq_false h1,Bool.or_self,cond_false]
  have hs:TolP rs h0 (a.length+1) (sumL (tlK rs) a) ((rs.getD (rof rs h).toNat zRm).tags.reverse,a ++ [h]):=by
   refine ⟨hm.add hh h1,?_,by simp⟩
   simp only [List.length_reverse,sumL_app]
   have h3:=(room_at h2).2.2
   have:sumL (tlK rs) [h]=tlK rs h:=by rw [sumL_cons];rfl
   omega
  have:=fold_inv (TolP rs h0 (a.length+1) (sumL (tlK rs) a)) (fun (b:List Int × List Hd) kid=>(b.1 ++ (toldS n rs kid b.2).1,(toldS n rs kid b.2).2)) _ _ hs fun b x hx hb=>by
   have ih:=toldS_inv rs h0 n x b.2 hb.1 (.inr (kid_in (room_at h2).2.1 hx))
   refine ⟨ih.1,?_,?_⟩
   ·have h4:=ih.2.1
    have h5:=hb.2.1
    simp only [List.length_append]
    omega
   ·have h4:=ih.2.2
    have h5:=hb.2.2
    simp only
    omega
  exact ⟨this.1,this.2.1,by have:=this.2.2;omega⟩
/-- The two walks tell the same tags, and meet the same rooms. -/
def MetEq (rs:List Rm) (a b:List Hd):Prop:=∀ x,¬ rof rs x < 0→(x∈a↔x∈b)
theorem gat_told (rs:List Rm):∀ (n:Nat) (h:Hd) (a b:List Hd) (t:List Int),MetEq rs a b→(gatH n rs h (a,t)).2=t ++ (toldS n rs h b).1∧MetEq rs (gatH n rs h (a,t)).1 (toldS n rs h b).2
 | 0,_,_,_,t,he=>⟨by simp [gatH,toldS],he⟩
 | n+1,h,a,b,t,he=>by
  unfold gatH toldS hasH
  by_cases h2:rof rs h < 0
  ·simp only [decide_eq_true h2,Bool.true_or,cond_true,List.append_nil]
   cases decide (h∈a) with
   | true=>exact ⟨rfl,he⟩
   | false =>
    refine ⟨rfl,fun x hx=>?_⟩
    simp only [cond_false,List.mem_append,List.mem_singleton]
    rw [he x hx]
    refine ⟨fun h3=>h3.resolve_right fun e=>?_,.inl⟩
    subst e
    exact hx h2
  ·simp only [decide_eq_false h2,Bool.false_or]
   by_cases h1:h∈a
   ·rw [decide_eq_true h1,decide_eq_true ((he h h2).1 h1)]
    exact ⟨by simp,he⟩
   ·rw [decide_eq_false h1,decide_eq_false fun h3=>h1 ((he h h2).2 h3)]
    simp only [cond_false]
    have hs:MetEq rs (a ++ [h]) (b ++ [h]):=fun x hx=>by
     rw [List.mem_append,List.mem_append,he x hx]
    have key:∀ (l:List Hd) (a b:List Hd) (t u:List Int),MetEq rs a b →
      (l.foldl (fun a kid=>gatH n rs kid a) (a,t ++ u)).2=t ++ (l.foldl (fun (b:List Int × List Hd) kid=>(b.1 ++ (toldS n rs kid b.2).1,(toldS n rs kid b.2).2)) (u,b)).1 ∧
      MetEq rs (l.foldl (fun a kid=>gatH n rs kid a) (a,t ++ u)).1 (l.foldl (fun (b:List Int × List Hd) kid=>(b.1 ++ (toldS n rs kid b.2).1,(toldS n rs kid b.2).2)) (u,b)).2:=by
     intro l
     induction l with
     | nil=>intro a b t u h3;exact ⟨rfl,h3⟩
     | cons x l ih =>
      intro a b t u h3
      obtain ⟨k1,k2⟩:=gat_told rs n x a b (t ++ u) h3
      simp only [List.foldl_cons]
      have e:gatH n rs x (a,t ++ u)=((gatH n rs x (a,t ++ u)).1,t ++ (u ++ (toldS n rs x b).1)):=by rw [← List.append_assoc,← k1]
      rw [e]
      exact ih _ _ t _ k2
    exact key _ _ _ t _ hs
end Go.Mach.F
namespace Go.Mach.F
open Go Go.Mach Go.Proofs.Tryz
theorem plainH (h:Hd):plainF (cutT 0 1 (rowsT [[T.int .i64 h.slot,T.int .i64 h.gen]]))=atL Hd.cs [h]:=by
 rw [show [T.int .i64 h.slot,T.int .i64 h.gen]=Hd.cs h from rfl,rows1 Hd.cs,show cutT 0 1 (atL Hd.cs [h])=atL Hd.cs [h] from cut_all Hd.cs [h],plain_Hd]
theorem plain_cut_I (l:List Int):plainF (cutT 0 l.length (atL rowI l))=atL rowI l:=by rw [cut_all,plain_I]
theorem kids_len {rs:List Rm} {r:Rm} (h:r∈rs):r.kids.length≤(allK rs).length:=by
 induction rs with
 | nil=>cases h
 | cons x rs ih =>
  simp only [allK,List.flatMap_cons,List.length_append]
  rcases List.mem_cons.1 h with rfl | h1
  ·omega
  ·have:=ih h1
   unfold allK at this
   omega
theorem body_gat (k:Nat) (m:Ml) (h:Hd) (a:List Hd) (b:List Int) (h0:ok_gat (k+1) (m,h,a,b)):body prog (tabS [(i_ConH,e_ConH),(i_iRoomOf,e_iRoomOf),(i_iTagsDown,e_iTagsDown),(i_gat,e_gat k)]) kp_gat ((m.rooms.getD (rof m.rooms h).toNat zRm).kids.length+1) F_gat (ea_gat (m,h,a,b))=some ([oT (eL 2 Hd.cs (f_gat (k+1) (m,h,a,b)).1),oT (eI (f_gat (k+1) (m,h,a,b)).2)],[nul,nul,nul,nul]):=by
 have hlm:=lm
 obtain ⟨hG,hb⟩:=h0
 obtain ⟨g0,hm,hh⟩:=hG.walk
 have hl:m.rooms.length≤LM:=hG.rooms.1
 have ha:=hm.len
 have hk:=hG.kids
 have ht:=hG.tags
 have hf:=hG.fuel
 dsimp only at hl ha hk ht hf hb hm hh
 have hbl:=Nat.le_trans hb (sumL_le m.rooms hm.nd)
 have hal:a.length≤LM:=by omega
 have c0:ok_idHd (a,h):=hal
 have c1:ok_iRoomOf (m,h):=hl
 have s1:(a.length+1) * 16≤70368744177664:=by omega
 have s2:a.length+1≤70368744177664:=by omega
 unfold ea_gat f_gat gatH
 dsimp only
 rw [pre_gat]
 simp only [rsx0,ble_d,Nat.le_refl,cut_all,Ml.cs,Hd.cs,s1,s2]
 rw [entK_of (dm_idHd c0) (iv_idHd c0)]
 have hix:@decide (0≤f_idHd (a,h)) (Int.decLe 0 (f_idHd (a,h)))=decide (h∈a):=ixH_has a h
 rw [hix]
 simp only [hasH]
 by_cases h1:h∈a
 ·simp only [h1,decide_true,cond_true]
  rfl
 simp only [h1,decide_false,cond_false]
 rw [entK_of (dm_iRoomOf c1) (iv_iRoomOf c1)]
 simp only [d_iRoomOf,plainH,appF_app]
 by_cases h2:rof m.rooms h < 0
 ·simp only [h2,decide_true,cond_true,oT,eL_T,List.length_append,List.length_singleton]
  rfl
 have e1:=rof_lt h2
 obtain ⟨hx,hxm,_⟩:=room_at h2
 have hs:=gat_start (a:=(a,b)) (n:=a.length) ⟨hm,hb,Nat.le_refl _⟩ hh h1 h2
 simp only at hs
 obtain ⟨x,hxe⟩:∃ x,x=m.rooms.getD (rof m.rooms h).toNat zRm:=⟨_,rfl⟩
 rw [← hxe] at hx hxm hs ⊢
 have hy:=hG.rooms.2 _ hxm
 have c2:ok_iTagsDown x.tags:=hy.2.2
 have hsl:=Nat.le_trans hs.2.1 (sumL_le m.rooms hs.1.nd)
 simp only [List.length_append,List.length_reverse] at hsl
 have s3:(b.length+x.tags.length) * 8≤70368744177664:=by omega
 have s4:b.length+x.tags.length≤70368744177664:=by omega
 simp only [rsx0,h2,decide_false,cond_false,e1.1,e1.2,atL_of hx,Rm.cs]
 rw [entK_of (dm_iTagsDown c2) (iv_iTagsDown c2)]
 simp only [d_iTagsDown,List.length_reverse,rsx0,ble_d,Nat.le_refl,s3,s4]
 obtain ⟨F,hF⟩:∃ F:List Hd × List Int→Hd→List Hd × List Int,F=fun a kid=>gatH k m.rooms kid a:=⟨_,rfl⟩
 obtain ⟨A,hA⟩:∃ A:Nat→List Hd × List Int,A=fun i=>(x.kids.take i).foldl F (a ++ [h],b ++ x.tags.reverse):=⟨_,rfl⟩
 have hAi:∀ i,GatP m.rooms g0 (a.length+1) (A i):=fun i=>by
  rw [hA]
  refine fold_inv (GatP m.rooms g0 (a.length+1)) F _ _ hs fun c y hy' hc=>?_
  rw [hF]
  exact gatH_inv m.rooms g0 k y c _ hc (.inr (kid_in hxm (List.mem_of_mem_take hy')))
 have hkl:=kids_len hxm
 have hst:st_gat_1 k m h a b (rof m.rooms h) (a.length+1) (atL Hd.cs (a ++ [h])) (b.length+x.tags.length) (appF b.length (atL rowI b) (plainF (atL rowI x.tags.reverse))) 0=(fun i:Nat=>st_gat_1 k m h a b (rof m.rooms h) (A i).1.length (atL Hd.cs (A i).1) (A i).2.length (atL rowI (A i).2) (i:Nat)) 0:=by
  rw [plain_I,appF_app,hA]
  simp only [List.take_zero,List.foldl_nil,List.length_append,List.length_singleton,List.length_reverse]
  rfl
 rw [hst,forLoop x.kids.length (fun i:Nat=>st_gat_1 k m h a b (rof m.rooms h) (A i).1.length (atL Hd.cs (A i).1) (A i).2.length (atL rowI (A i).2) (i:Nat)) (ex_gat_1_1 k m h a b (rof m.rooms h) (A x.kids.length).1.length (atL Hd.cs (A x.kids.length).1) (A x.kids.length).2.length (atL rowI (A x.kids.length).2) x.kids.length) 0 (fun i K hi=>?_) (fun K=>?_) _ (Nat.le_refl _)]
 ·rw [post_gat_1_1]
  simp only [rsx0,ble_d,Nat.le_refl,oT,eL_T]
  rw [hA]
  simp only [List.take_length,hF]
  rfl
 ·have hq:=List.getElem?_eq_getElem hi
  obtain ⟨q,hqe⟩:∃ q,q=x.kids[i]:=⟨_,rfl⟩
  rw [← hqe] at hq
  have hAi1:A (i+1)=gatH k m.rooms q (A i):=by
   rw [hA]
   simp only [take_fold F hq]
   rw [hF]
  have hp:=hAi i
  have hfu:=hp.2.2
  have c3:ok_gat k (m,q,(A i).1,(A i).2):=⟨⟨hG.rooms,hk,ht,⟨g0,hp.1,.inr (kid_in hxm (List.mem_of_getElem? hq))⟩,by dsimp only;omega⟩,hp.2.1⟩
  rw [round_gat_1,hAi1]
  simp (disch:=omega) only [rsx0,ble_d,Nat.le_refl,hi,atL_of hx,Rm.cs,atL_of hq,Hd.cs,wrapS]
  rw [entK_of (dm_gat c3) (iv_gat c3)]
  simp only [f_gat,rsx0,ble_d,Nat.le_refl]
 ·rw [round_gat_1]
  simp only [rsx0,atL_of hx,Rm.cs,lt_d,Nat.lt_irrefl,decide_false,cond_false]
theorem s_gat:∀ k,EntOk prog i_gat (e_gat k)
 | 0=>ent_ok ea_gat_inj fun x hx=>by
  obtain ⟨g0,hm,_⟩:=hx.1.walk
  have h1:=hm.len
  have h2:=hx.1.fuel
  omega
 | k+1=>ent_ok ea_gat_inj fun x hx =>
  body_sound (φ:=(tabS [(i_ConH,e_ConH),(i_iRoomOf,e_iRoomOf),(i_iTagsDown,e_iTagsDown),(i_gat,e_gat k)])) (tabS_cons s_ConH (tabS_cons s_iRoomOf (tabS_cons s_iTagsDown (tabS_cons (s_gat k) tabS_nil)))) mixed (kp:=kp_gat) (n:=(x.1.rooms.getD (rof x.1.rooms x.2.1).toNat zRm).kids.length+1) func128 (c:=bodyOf F_gat) (by kernel_rfl) (body_gat k x.1 x.2.1 x.2.2.1 x.2.2.2 hx) (name_ok (by kernel_rfl))
theorem body_told (k:Nat) (m:Ml) (h:Hd) (a:List Hd) (h0:ok_told (k+1) (m,h,a)):body prog (tabS [(i_sRoomOf,e_sRoomOf),(i_sHasH,e_sHasH),(i_sTagsDown,e_sTagsDown),(i_told,e_told k)]) kp_told ((m.rooms.getD (rof m.rooms h).toNat zRm).kids.length+1) F_told (ea_told (m,h,a))=some ([oT (eI (f_told (k+1) (m,h,a)).1),oT (eL 2 Hd.cs (f_told (k+1) (m,h,a)).2)],[nul,nul,nul]):=by
 have hlm:=lm
 have hG:GatOk (k+1) m h a:=h0
 obtain ⟨g0,hm,hh⟩:=hG.walk
 have hl:m.rooms.length≤LM:=hG.rooms.1
 have ha:=hm.len
 have hk:=hG.kids
 have ht:=hG.tags
 have hf:=hG.fuel
 have hal:a.length≤LM:=by omega
 have c0:ok_sHasH (a,h):=hal
 have c1:ok_sRoomOf (m,h):=hl
 have s0:a.length * 16≤70368744177664:=by omega
 have s1:(a.length+1) * 16≤70368744177664:=by omega
 have s2:a.length+1≤70368744177664:=by omega
 have s5:a.length≤70368744177664:=by omega
 have r0:T.arr 1 0 (rowsT [])=T.arr 1 0 (atL rowI []):=by rw [rowsT0 rowI]
 unfold ea_told f_told toldS
 dsimp only
 rw [pre_told]
 simp only [Ml.cs,Hd.cs,eL_T]
 rw [entK_of (dm_sRoomOf c1) (iv_sRoomOf c1)]
 simp only [d_sRoomOf,rsx0,ble_d,Nat.le_refl,cut_all,s0,s1,s2,s5]
 by_cases h2:rof m.rooms h < 0
 ·simp only [h2,decide_true,cond_true,Bool.true_or,r0]
  rfl
 simp only [h2,decide_false,cond_false,Bool.false_or]
 rw [entK_of (dm_sHasH c0) (iv_sHasH c0)]
 simp only [d_sHasH,hasH]
 by_cases h1:h∈a
 ·simp only [h1,decide_true,cond_true,r0]
  rfl
 have e1:=rof_lt h2
 obtain ⟨hx,hxm,htl⟩:=room_at h2
 obtain ⟨x,hxe⟩:∃ x,x=m.rooms.getD (rof m.rooms h).toNat zRm:=⟨_,rfl⟩
 rw [← hxe] at hx hxm htl ⊢
 have hy:=hG.rooms.2 _ hxm
 have c2:ok_sTagsDown x.tags:=hy.2.2
 simp only [rsx0,h1,decide_false,cond_false,e1.1,e1.2,atL_of hx,Rm.cs]
 rw [entK_of (dm_sTagsDown c2) (iv_sTagsDown c2)]
 simp only [d_sTagsDown,List.length_reverse,rsx0,ble_d,Nat.le_refl]
 have hs:TolP m.rooms g0 (a.length+1) 0 (x.tags.reverse,a ++ [h]):=by
  refine ⟨hm.add hh h1,?_,by simp⟩
  simp only [List.length_reverse,sumL_app]
  have:sumL (tlK m.rooms) [h]=tlK m.rooms h:=by rw [sumL_cons];rfl
  omega
 obtain ⟨F,hF⟩:∃ F:List Int × List Hd→Hd→List Int × List Hd,F=fun b kid=>(b.1 ++ (toldS k m.rooms kid b.2).1,(toldS k m.rooms kid b.2).2):=⟨_,rfl⟩
 obtain ⟨A,hA⟩:∃ A:Nat→List Int × List Hd,A=fun i=>(x.kids.take i).foldl F (x.tags.reverse,a ++ [h]):=⟨_,rfl⟩
 have stepP:∀ (c:List Int × List Hd) (y:Hd),y∈x.kids→TolP m.rooms g0 (a.length+1) 0 c→TolP m.rooms g0 (a.length+1) 0 (F c y):=fun c y hy' hc=>by
  rw [hF]
  have ih:=toldS_inv m.rooms g0 k y c.2 hc.1 (.inr (kid_in hxm hy'))
  refine ⟨ih.1,?_,?_⟩
  ·have h4:=ih.2.1
   have h5:=hc.2.1
   simp only [List.length_append]
   omega
  ·have h4:=ih.2.2
   have h5:=hc.2.2
   simp only
   omega
 have hAi:∀ i,TolP m.rooms g0 (a.length+1) 0 (A i):=fun i=>by
  rw [hA]
  exact fold_inv (TolP m.rooms g0 (a.length+1) 0) F _ _ hs fun c y hy' hc=>stepP c y (List.mem_of_mem_take hy') hc
 have hst:st_told_1 k m h a (rof m.rooms h) (a.length+1) (appF a.length (appF 0 (rowsT []) (plainF (atL Hd.cs a))) (plainF (cutT 0 1 (rowsT [[T.int IntKind.i64 h.slot,T.int IntKind.i64 h.gen]])))) x.tags.length (atL rowI x.tags.reverse) 0=(fun i:Nat=>st_told_1 k m h a (rof m.rooms h) (A i).2.length (atL Hd.cs (A i).2) (A i).1.length (atL rowI (A i).1) (i:Nat)) 0:=by
  rw [plainH,plain_Hd,app0,appF_app,hA]
  simp only [List.take_zero,List.foldl_nil,List.length_append,List.length_singleton,List.length_reverse]
  rfl
 rw [hst,forLoop x.kids.length (fun i:Nat=>st_told_1 k m h a (rof m.rooms h) (A i).2.length (atL Hd.cs (A i).2) (A i).1.length (atL rowI (A i).1) (i:Nat)) (ex_told_1_1 k m h a (rof m.rooms h) (A x.kids.length).2.length (atL Hd.cs (A x.kids.length).2) (A x.kids.length).1.length (atL rowI (A x.kids.length).1) x.kids.length) 0 (fun i K hi=>?_) (fun K=>?_) _ (Nat.le_refl _)]
 ·rw [post_told_1_1]
  simp only [rsx0,ble_d,Nat.le_refl,oT,eL_T]
  rw [hA]
  simp only [List.take_length,hF]
  rfl
 ·have hq:=List.getElem?_eq_getElem hi
  obtain ⟨q,hqe⟩:∃ q,q=x.kids[i]:=⟨_,rfl⟩
  rw [← hqe] at hq
  have hAi1:A (i+1)=F (A i) q:=by
   rw [hA]
   simp only [take_fold F hq]
  have hp:=hAi i
  have hfu:=hp.2.2
  have c3:ok_told k (m,q,(A i).2):=⟨hG.rooms,hk,ht,⟨g0,hp.1,.inr (kid_in hxm (List.mem_of_getElem? hq))⟩,by dsimp only;omega⟩
  have hp1:=stepP (A i) q (List.mem_of_getElem? hq) hp
  have hp2:=Nat.le_trans hp1.2.1 (sumL_le m.rooms hp1.1.nd)
  rw [hF] at hp2
  simp only [List.length_append] at hp2
  have hkl:=kids_len hxm
  have s6:((A i).1.length+(toldS k m.rooms q (A i).2).1.length) * 8≤70368744177664:=by omega
  have s7:(A i).1.length+(toldS k m.rooms q (A i).2).1.length≤70368744177664:=by omega
  rw [round_told_1,hAi1,hF]
  simp (disch:=omega) only [rsx0,ble_d,Nat.le_refl,hi,e1.1,e1.2,atL_of hx,Rm.cs,atL_of hq,Hd.cs,wrapS]
  rw [entK_of (dm_told c3) (iv_told c3)]
  simp only [f_told,rsx0,ble_d,Nat.le_refl,s6,s7,plain_cut_I,appF_app,List.length_append]
 ·rw [round_told_1]
  simp only [rsx0,e1.1,e1.2,atL_of hx,Rm.cs,lt_d,Nat.lt_irrefl,decide_false,cond_false]
theorem s_told:∀ k,EntOk prog i_told (e_told k)
 | 0=>ent_ok ea_told_inj fun x hx=>by
  obtain ⟨g0,hm,_⟩:=hx.walk
  have h1:=hm.len
  have h2:=hx.fuel
  omega
 | k+1=>ent_ok ea_told_inj fun x hx =>
  body_sound (φ:=(tabS [(i_sRoomOf,e_sRoomOf),(i_sHasH,e_sHasH),(i_sTagsDown,e_sTagsDown),(i_told,e_told k)])) (tabS_cons s_sRoomOf (tabS_cons s_sHasH (tabS_cons s_sTagsDown (tabS_cons (s_told k) tabS_nil)))) mixed (kp:=kp_told) (n:=(x.1.rooms.getD (rof x.1.rooms x.2.1).toNat zRm).kids.length+1) func107 (c:=bodyOf F_told) (by kernel_rfl) (body_told k x.1 x.2.1 x.2.2 hx) (name_ok (by kernel_rfl))
end Go.Mach.F
namespace Go.Mach.F
open Go Go.Mach Go.Proofs.Tryz Go.IntKind
theorem put_rows {α:Type} (row:α→List T) (l:List α) (x:α) {p:Nat} (hp:p≤l.length):appF (p+1) (appF p (atL row l) (atL row [x])) (shF p (movF 0 p (atL row l)))=atL row (l.take p ++ [x] ++ l.drop p):=by
 rw [← insF_list hp]
 funext j k
 unfold appF insF
 simp only [blt_d]
 by_cases a:j < p
 ·rw [decide_eq_true (show j < p+1 by omega),cond_true,decide_eq_true a,cond_true,if_pos a]
 ·rw [if_neg a]
  by_cases b:j=p
  ·subst b
   rw [decide_eq_true (show j < j+1 by omega),cond_true,decide_eq_false a,cond_false,if_pos rfl,Nat.sub_self]
  ·rw [decide_eq_false (show ¬ j < p+1 by omega),cond_false,if_neg b,shF_eq,movF_if,if_neg (by omega)]
   congr 1
   omega
theorem app_nil {α:Type} (row:α→List T) (l:List α):appF 0 (rowsT []) (atL row l)=atL row l:=by
 funext j k
 rfl
theorem shF0 (f:Nat→Nat→T):shF 0 f=f:=rfl
theorem rm_row (r:Rm):rowsT [[T.int i64 r.h.slot,T.int i64 r.h.gen,T.int i64 r.up.slot,T.int i64 r.up.gen,T.arr 2 r.kids.length (atL Hd.cs r.kids),T.int i64 r.ep,T.int i64 r.chunks,T.bool r.cur,T.int i64 r.bump,T.arr 1 r.things.length (atL Sf.cs r.things),T.arr 1 r.tags.length (atL rowI r.tags)]]=atL Rm.cs [r]:=by
 rw [← rows1 Rm.cs]
 rfl
theorem body_sPut (l:List Rm) (r:Rm) (h:ok_sPut (l,r)):body prog (tabS []) kp_sPut (l.length+1) F_sPut (ea_sPut (l,r))=some ([oT (eL 11 Rm.cs (f_sPut (l,r)))],[nul,nul]):=by
 have hlm:=lm
 have hl:l.length≤LM:=h
 obtain ⟨p,hp,h1,h2,h3⟩:=gtx_spec l r.h
 unfold ea_sPut f_sPut
 dsimp only
 rw [pre_sPut,hp]
 simp (implicitDefEqProofs:=false) only [ble_d,Nat.le_refl,decide_true,Bool.and_true,gdt]
 have hst:st_sPut_1 l r 0=(fun i:Nat=>st_sPut_1 l r (i:Nat)) 0:=rfl
 rw [hst,forLoop p (fun i:Nat=>st_sPut_1 l r (i:Nat)) (ex_sPut_1_1 l r p) 0 (fun i K hi=>?_) (fun K=>?_) _ (by omega)]
 ·rw [post_sPut_1_1]
  have s1:p * 136≤70368744177664:=by omega
  have s2:p≤70368744177664:=by omega
  have s3:(p+1) * 136≤70368744177664:=by omega
  have s4:p+1≤70368744177664:=by omega
  have s5:p+1+(l.length - p)=l.length+1:=by omega
  have s6:p+(l.length - p)=l.length:=by omega
  have s7:(l.length+1) * 136≤70368744177664:=by omega
  have s8:l.length+1≤70368744177664:=by omega
  have s9:(p:Int)≤(l.length:Int):=by omega
  have s0:0≤(p:Int):=by omega
  have hrow:=rm_row r
  simp (implicitDefEqProofs:=false) only [rsx0,s0,s1,s2,s3,s4,s5,s6,s7,s8,s9,h1,Int.toNat_natCast,Nat.sub_zero,Nat.zero_add,Nat.add_zero,ble_d,Nat.le_refl,Int.le_refl,shF0,app_nil,hrow,put_rows Rm.cs l r h1]
  have:(insL l (p:Int) r).length=l.length+1:=by
   unfold insL
   rw [Int.toNat_natCast]
   simp only [List.length_append,List.length_take,List.length_drop,List.length_singleton]
   omega
  unfold oT
  rw [this]
  rfl
 ·have hi2:i < l.length:=by omega
  have hx:=List.getElem?_eq_getElem hi2
  obtain ⟨x,hxe⟩:∃ x,x=l[i]:=⟨_,rfl⟩
  rw [← hxe] at hx
  have hg:l.getD i zRm=x:=by rw [List.getD_eq_getElem?_getD,hx];rfl
  have hn:=h2 i hi
  rw [hg] at hn
  have hle:x.h.slot≤r.h.slot:=by omega
  have w1:i64.wrap ((i:Int)+1)=((i+1:Nat):Int):=wrapS (by omega)
  rw [round_sPut_1]
  simp (implicitDefEqProofs:=false) only [rsx0,hi2,atL_of hx,Rm.cs,w1,hle]
 ·rw [round_sPut_1]
  by_cases hlt:p < l.length
  ·have hx:=List.getElem?_eq_getElem hlt
   obtain ⟨x,hxe⟩:∃ x,x=l[p]:=⟨_,rfl⟩
   rw [← hxe] at hx
   have hg:l.getD p zRm=x:=by rw [List.getD_eq_getElem?_getD,hx];rfl
   have hn:=h3 hlt
   rw [hg] at hn
   have hle:¬ x.h.slot≤r.h.slot:=by omega
   simp (implicitDefEqProofs:=false) only [rsx0,hlt,atL_of hx,Rm.cs,hle,decide_false,cond_false]
  ·simp (implicitDefEqProofs:=false) only [lt_d,hlt,decide_false,cond_false]
theorem s_sPut:EntOk prog i_sPut e_sPut:=ent_ok ea_sPut_inj fun x hx =>
 body_sound (φ:=(tabS [])) tabS_nil mixed (kp:=kp_sPut) (n:=x.1.length+1) func100 (c:=bodyOf F_sPut) (by kernel_rfl) (body_sPut x.1 x.2 hx) (name_ok (by kernel_rfl))
theorem body_sEmk (m:Ml) (up h:Hd) (b:Bool) (n:Nat) (h0:ok_sEmk (m,up,h,b)):body prog tb27 kp_sEmk n F_sEmk (ea_sEmk (m,up,h,b))=some ([oR (f_sEmk (m,up,h,b)).1.cs,oT (.int .i64 (f_sEmk (m,up,h,b)).2)],[nul,nul,nul,nul]):=by
 have hlm:=lm
 obtain ⟨h1,h2⟩:ok_RmS m.rooms∧ok_LI m.log:=h0
 have hl:m.rooms.length≤LM:=h1.1
 have c0:ok_sModel m:=⟨h1,h2⟩
 have c1:ok_sRsv (m,up):=hl
 have c2:ok_sTakenBy m:=hl
 have c3:ok_sDeepIn (m,up):=hl
 unfold ea_sEmk f_sEmk emkM emkT
 dsimp only
 rw [pre_sEmk]
 try simp (implicitDefEqProofs:=false) only [eL_T,Ml.cs,Hd.cs,hd0]
 rw [entK_of (dm_sModel c0) (iv_sModel c0)]
 simp (implicitDefEqProofs:=false) only [d_sModel,rsx0,ble_d,Nat.le_refl]
 by_cases eu:up=⟨0,0⟩
 ·have hkr:kidR m.rooms (-1) h=m.rooms:=rfl
  simp (implicitDefEqProofs:=false) only [decide_eq_true eu,Bool.not_true,cond_true,cond_false]
  cases b with
  | false=>rfl
  | true =>
   simp (implicitDefEqProofs:=false) only [Bool.not_true,cond_true,cond_false]
   rw [entK_of (dm_sTakenBy c2) (iv_sTakenBy c2)]
   simp (implicitDefEqProofs:=false) only [d_sTakenBy]
   by_cases a5:m.c.chunks < i64.wrap (tkn m.rooms+1)
   ·simp (implicitDefEqProofs:=false) only [a5,decide_true,cond_true]
    rfl
   simp (implicitDefEqProofs:=false) only [a5,decide_false,cond_false,cut_all]
   have c7:ok_sPut (m.rooms,newR h up):=hl
   rw [show [C.tr true (T.int i64 h.slot),C.tr true (T.int i64 h.gen),C.tr true (T.int i64 up.slot),C.tr true (T.int i64 up.gen),C.tr true (T.arr 2 0 fun _ _=>T.hole),C.tr true (T.int i64 0),C.tr true (T.int i64 1),C.tr true (T.bool true),C.tr true (T.int i64 0),C.tr true (T.arr 1 0 fun _ _=>T.hole),C.tr true (T.arr 1 0 fun _ _=>T.hole)] =
    [C.tr true (T.int i64 (newR h up).h.slot),C.tr true (T.int i64 (newR h up).h.gen),C.tr true (T.int i64 (newR h up).up.slot),C.tr true (T.int i64 (newR h up).up.gen),C.tr true (T.arr 2 (newR h up).kids.length (atL Hd.cs (newR h up).kids)),C.tr true (T.int i64 (newR h up).ep),C.tr true (T.int i64 (newR h up).chunks),C.tr true (T.bool (newR h up).cur),C.tr true (T.int i64 (newR h up).bump),C.tr true (T.arr 1 (newR h up).things.length (atL Sf.cs (newR h up).things)),C.tr true (T.arr 1 (newR h up).tags.length (atL rowI (newR h up).tags))] from rfl]
   rw [entK_of (dm_sPut c7) (iv_sPut c7)]
   simp (implicitDefEqProofs:=false) only [d_sPut,rsx0,ble_d,Nat.le_refl,putM,hkr,show (newR h up).h=h from rfl]
   rfl
 ·simp (implicitDefEqProofs:=false) only [decide_eq_false eu,Bool.not_false,cond_true,cond_false]
  rw [entK_of (dm_sRsv c1) (iv_sRsv c1)]
  simp (implicitDefEqProofs:=false) only [d_sRsv,int_ne]
  by_cases e:(rsv m up).2=0
  case neg =>
   simp (implicitDefEqProofs:=false) only [e,decide_false,Bool.not_false,cond_true,cond_false]
   rfl
  have hk:=rsv_ok e
  have hx:=getD_get hk.2
  have e0:=hk.1
  have e1:=hk.2
  simp (implicitDefEqProofs:=false) only [e,e0,decide_true,Bool.not_true,cond_true,cond_false]
  rw [entK_of (dm_sDeepIn c3) (iv_sDeepIn c3)]
  simp (implicitDefEqProofs:=false) only [d_sDeepIn,d4 (dpn m.rooms m.rooms.length up)]
  by_cases a4:4≤dpn m.rooms m.rooms.length up
  ·simp (implicitDefEqProofs:=false) only [a4,decide_true,cond_true]
   rfl
  simp (implicitDefEqProofs:=false) only [a4,decide_false,cond_false]
  cases b with
  | false=>rfl
  | true =>
   simp (implicitDefEqProofs:=false) only [Bool.not_true,cond_true,cond_false]
   rw [entK_of (dm_sTakenBy c2) (iv_sTakenBy c2)]
   simp (implicitDefEqProofs:=false) only [d_sTakenBy]
   by_cases a5:m.c.chunks < i64.wrap (tkn m.rooms+1)
   ·simp (implicitDefEqProofs:=false) only [a5,decide_true,cond_true]
    rfl
   obtain ⟨x,hxe⟩:∃ x,x=m.rooms.getD (rsv m up).1.toNat zRm:=⟨_,rfl⟩
   have hkr:kidR m.rooms (rsv m up).1 h=m.rooms.set (rsv m up).1.toNat { x with kids:=h :: x.kids }:=by
    unfold kidR
    rw [decide_eq_true e0,cond_true,← hxe]
   rw [← hxe] at hx
   have hy:=h1.2 _ (List.mem_of_getElem? hx)
   have hy1:x.kids.length≤LM:=hy.1.1
   have s1:(1+x.kids.length) * 16≤70368744177664:=by omega
   have s2:1+x.kids.length≤70368744177664:=by omega
   have h9:setF (rsv m up).1.toNat 4 (T.arr 2 (1+x.kids.length) (appF 1 (atL Hd.cs [h]) (atL Hd.cs x.kids))) (atL Rm.cs m.rooms)=atL Rm.cs (m.rooms.set (rsv m up).1.toNat { x with kids:=h :: x.kids }):=by
    rw [show (1:Nat)=[h].length from rfl,appF_app]
    exact setF_list hx (by simp only [Rm.cs,eL_T,List.length_append,List.length_cons,List.length_nil,List.singleton_append,Nat.add_comm];rfl) (by decide:4 < 11)
   simp (implicitDefEqProofs:=false) only [rsx0,a5,decide_false,cond_false,e0,e1,Nat.add_zero,atL_of hx,Rm.cs,T.get,ble_d,Nat.le_refl,Nat.beq_refl,kid_row,cut_all,plain_Hd,s1,s2,h9]
   have hsl:m.rooms.length=(m.rooms.set (rsv m up).1.toNat { x with kids:=h :: x.kids }).length:=List.length_set.symm
   have hl2:(m.rooms.set (rsv m up).1.toNat { x with kids:=h :: x.kids }).length≤LM:=by rw [← hsl];exact hl
   obtain ⟨l',hl'⟩:∃ l',l'=m.rooms.set (rsv m up).1.toNat { x with kids:=h :: x.kids }:=⟨_,rfl⟩
   rw [← hl'] at hkr hsl hl2 ⊢
   rw [hsl]
   have c7:ok_sPut (l',newR h up):=hl2
   rw [show [C.tr true (T.int i64 h.slot),C.tr true (T.int i64 h.gen),C.tr true (T.int i64 up.slot),C.tr true (T.int i64 up.gen),C.tr true (T.arr 2 0 fun _ _=>T.hole),C.tr true (T.int i64 0),C.tr true (T.int i64 1),C.tr true (T.bool true),C.tr true (T.int i64 0),C.tr true (T.arr 1 0 fun _ _=>T.hole),C.tr true (T.arr 1 0 fun _ _=>T.hole)] =
    [C.tr true (T.int i64 (newR h up).h.slot),C.tr true (T.int i64 (newR h up).h.gen),C.tr true (T.int i64 (newR h up).up.slot),C.tr true (T.int i64 (newR h up).up.gen),C.tr true (T.arr 2 (newR h up).kids.length (atL Hd.cs (newR h up).kids)),C.tr true (T.int i64 (newR h up).ep),C.tr true (T.int i64 (newR h up).chunks),C.tr true (T.bool (newR h up).cur),C.tr true (T.int i64 (newR h up).bump),C.tr true (T.arr 1 (newR h up).things.length (atL Sf.cs (newR h up).things)),C.tr true (T.arr 1 (newR h up).tags.length (atL rowI (newR h up).tags))] from rfl]
   rw [entK_of (dm_sPut c7) (iv_sPut c7)]
   simp (implicitDefEqProofs:=false) only [d_sPut,rsx0,ble_d,Nat.le_refl,putM,hkr,show (newR h up).h=h from rfl]
   rfl
theorem s_sEmk:EntOk prog i_sEmk e_sEmk:=ent_ok ea_sEmk_inj fun x hx =>
 body_sound (φ:=tb27) (tabS_cons s_sModel (tabS_cons s_sRsv (tabS_cons s_sDeepIn (tabS_cons s_sTakenBy (tabS_cons s_sPut tabS_nil))))) mixed (kp:=kp_sEmk) (n:=0) func44 (c:=bodyOf F_sEmk) (by kernel_rfl) (body_sEmk x.1 x.2.1 x.2.2.1 x.2.2.2 (0) hx) (name_ok (by kernel_rfl))
end Go.Mach.F
namespace Go.Mach.F
open Go Go.Mach Go.Proofs.Tryz Go.IntKind
--=set_option maxRecDepth 100000
def pR (cs:List T):Arg:=(2,(true,cs.map fun t=>.tr true t))
def rmJ (m:Ml) (j:Int):Rm:=m.rooms.getD j.toNat zRm
def needC (m:Ml) (x:Rm) (sz al:Int):Bool:=!x.cur || decide (m.c.size < i64.wrap (aup x.bump al+sz))
def setJ (m:Ml) (j:Int) (y:Rm):Ml:=⟨m.c,m.rooms.set j.toNat y,m.log⟩
def smlR (x:Rm) (n:Bool) (sz al:Int):Rm:=bif n then { x with chunks:=i64.wrap (x.chunks+1),cur:=true,bump:=i64.wrap (aup 0 al+sz) } else { x with bump:=i64.wrap (aup x.bump al+sz) }
def smlM (m:Ml) (j sz al:Int):Ml × Int:=bif needC m (rmJ m j) sz al&&decide (m.c.chunks < i64.wrap (tkn m.rooms+1)) then (m,5) else (setJ m j (smlR (rmJ m j) (needC m (rmJ m j) sz al) sz al),0)
theorem pR_inj {cs cs':List T} (h:pR cs=pR cs'):cs=cs':=by
 have e:=congrArg (fun a:Arg=>a.2.2) h
 exact (List.map_inj_right (fun x y h=>by cases h;rfl)).1 e
def ok_sSml (x:Ml × Int × Int × Int):Prop:=x.1.rooms.length≤LM∧0≤x.2.1∧x.2.1.toNat < x.1.rooms.length
def ea_sSml (x:Ml × Int × Int × Int):List Arg:=[pR x.1.cs,aI x.2.1,aI x.2.2.1,aI x.2.2.2]
def f_sSml (x:Ml × Int × Int × Int):Ml × Int:=smlM x.1 x.2.1 x.2.2.1 x.2.2.2
noncomputable def e_sSml:Ent:=ent [2,0,0,0] ok_sSml ea_sSml (fun (x:Ml × Int)=>([oT (.int .i64 x.2)],[oR x.1.cs,nul,nul,nul])) f_sSml
theorem ea_sSml_inj (x y:Ml × Int × Int × Int) (h:ea_sSml x=ea_sSml y):x=y:=by
 obtain ⟨m1,j1,sz1,al1⟩:=x
 obtain ⟨m2,j2,sz2,al2⟩:=y
 simp only [ea_sSml,List.cons.injEq,and_true,true_and] at h
 obtain ⟨e0,e1,e2,e3⟩:=h
 obtain rfl:=Ml.cs_ext (pR_inj e0)
 obtain rfl:=aI_inj e1
 obtain rfl:=aI_inj e2
 obtain rfl:=aI_inj e3
 rfl
theorem dm_sSml {m:Ml} {j:Int} {sz:Int} {al:Int} (h:ok_sSml (m,j,sz,al)):dom ok_sSml ea_sSml [(2,true,[C.tr true (T.int i64 m.c.chunks),C.tr true (T.int i64 m.c.size),C.tr true (T.int i64 m.c.slots),C.tr true (T.int i64 m.c.tax),C.tr true (T.int i64 m.c.slice),C.tr true (T.int i64 m.c.gens),C.tr true (T.arr 11 m.rooms.length (atL Rm.cs m.rooms)),C.tr true (T.arr 1 m.log.length (atL rowI m.log))]),(0,false,[C.tr false (T.int i64 j)]),(0,false,[C.tr false (T.int i64 sz)]),(0,false,[C.tr false (T.int i64 al)])]=true:=dom_ea (ea:=ea_sSml) (x:=(m,j,sz,al)) h
theorem iv_sSml {m:Ml} {j:Int} {sz:Int} {al:Int} (h:ok_sSml (m,j,sz,al)):inv ok_sSml ea_sSml [(2,true,[C.tr true (T.int i64 m.c.chunks),C.tr true (T.int i64 m.c.size),C.tr true (T.int i64 m.c.slots),C.tr true (T.int i64 m.c.tax),C.tr true (T.int i64 m.c.slice),C.tr true (T.int i64 m.c.gens),C.tr true (T.arr 11 m.rooms.length (atL Rm.cs m.rooms)),C.tr true (T.arr 1 m.log.length (atL rowI m.log))]),(0,false,[C.tr false (T.int i64 j)]),(0,false,[C.tr false (T.int i64 sz)]),(0,false,[C.tr false (T.int i64 al)])]=(m,j,sz,al):=inv_ea ea_sSml_inj (x:=(m,j,sz,al)) h
theorem d_sSml (m:Ml) (j:Int) (sz:Int) (al:Int):f_sSml (m,j,sz,al)=smlM m j sz al:=rfl
def i_sSml:Nat:=157
noncomputable abbrev F_sSml:Func:=f157
def kp_sSml:List (Nat × List Nat):=[(0,[0,4,8,12,36,40,44,48,52,56,60,88,92,96,100,104,108,112,116,120,124,128,132,136,140,293]),(1,[0,8,12,36,40,44,48,52,56,60,88,92,96,100,104,108,112,116,120,124,128,132,136,140,293]),(2,[0,8,12,36,40,44,48,52,56,60,144,293]),(3,[0,8,12,36,40,44,48,52,56,60,188,293]),(4,[32,293]),(5,[0,8,12,36,40,44,48,52,56,60,293]),(6,[0,8,12,36,40,44,48,52,56,60,293]),(7,[0,8,12,36,40,44,48,52,56,60,293]),(8,[293]),(9,[32,293])]
noncomputable abbrev tb29:Sems:=tabS [(i_sTakenBy,e_sTakenBy),(i_sAlignUp,e_sAlignUp)]
theorem pre_sSml (m:Ml) (j:Int) (sz:Int) (al:Int) (n:Nat):body prog tb29 kp_sSml n F_sSml [pR m.cs,aI j,aI sz,aI al]=(let q0:=atL Rm.cs m.2 (0+j.toNat) 6;let q1:=atL Rm.cs m.2 (0+j.toNat) (8+0);let q2:=T.arr 11 m.2.length (cutT 0 m.2.length (eL 11 Rm.cs m.2).fn);let q3:=setF (0+j.toNat) 6 (T.int i64 (i64.wrap (q0.toI+1))) (atL Rm.cs m.2);let q4:=setF (0+j.toNat) 7 (T.bool true) q3;let q5:=setF (0+j.toNat) 8 (T.int i64 0) q4 (0+j.toNat) (8+0);gd (decide (0≤j)&&(j.toNat.blt m.2.length&&true))<|gd ((0+j.toNat).blt m.2.length&&true&&(atL Rm.cs m.2 (0+j.toNat) (7+0)).isB)<|bif !(atL Rm.cs m.2 (0+j.toNat) (7+0)).toB then gd ((0+m.2.length).ble m.2.length)<|gd ((0+m.3.length).ble m.3.length)<|entK ok_sTakenBy ea_sTakenBy (f_sTakenBy) [(0,true,[C.tr false (T.int i64 m.c.1),C.tr false (T.int i64 m.c.2),C.tr false (T.int i64 m.c.3),C.tr false (T.int i64 m.c.4),C.tr false (T.int i64 m.c.5),C.tr false (T.int i64 m.c.6),C.tr false q2,C.tr false (T.arr 1 m.3.length (cutT 0 m.3.length (eL 1 rowI m.3).fn))])] fun (r2:Int)=>bif decide (m.c.1 < i64.wrap (r2+1)) then some ([(false,[.tr true (T.int i64 5)])],[(true,[.tr true (T.int i64 m.c.1),.tr true (T.int i64 m.c.2),.tr true (T.int i64 m.c.3),.tr true (T.int i64 m.c.4),.tr true (T.int i64 m.c.5),.tr true (T.int i64 m.c.6),.tr true (eL 11 Rm.cs m.2),.tr true (eL 1 rowI m.3)]),(false,[]),(false,[]),(false,[])]) else gd ((0+j.toNat).blt m.2.length&&true&&T.isI i64 (atL Rm.cs m.2 (0+j.toNat) (6+0)))<|gd ((0+j.toNat).blt m.2.length&&true&&true)<|gd ((0+j.toNat).blt m.2.length&&true&&true)<|gd ((0+j.toNat).blt m.2.length&&true&&true)<|gd ((0+j.toNat).blt m.2.length&&true&&T.isI i64 q5)<|entK ok_sAlignUp ea_sAlignUp (f_sAlignUp) [(0,false,[C.tr false (T.int i64 q5.toI)]),(0,false,[C.tr false (T.int i64 al)])] fun (r3:Int)=>gd ((0+j.toNat).blt m.2.length&&true&&true)<|some ([(false,[.tr true (T.int i64 0)])],[(true,[.tr true (T.int i64 m.c.1),.tr true (T.int i64 m.c.2),.tr true (T.int i64 m.c.3),.tr true (T.int i64 m.c.4),.tr true (T.int i64 m.c.5),.tr true (T.int i64 m.c.6),.tr true (.arr (11) (m.2.length) (setF (0+j.toNat) 8 (T.int i64 (i64.wrap (r3+sz))) (setF (0+j.toNat) 8 (T.int i64 0) q4))),.tr true (eL 1 rowI m.3)]),(false,[]),(false,[]),(false,[])]) else gd ((0+j.toNat).blt m.2.length&&true&&T.isI i64 q1)<|entK ok_sAlignUp ea_sAlignUp (f_sAlignUp) [(0,false,[C.tr false (T.int i64 q1.toI)]),(0,false,[C.tr false (T.int i64 al)])] fun (r1:Int)=>bif decide (m.c.2 < i64.wrap (r1+sz)) then gd ((0+m.2.length).ble m.2.length)<|gd ((0+m.3.length).ble m.3.length)<|entK ok_sTakenBy ea_sTakenBy (f_sTakenBy) [(0,true,[C.tr false (T.int i64 m.c.1),C.tr false (T.int i64 m.c.2),C.tr false (T.int i64 m.c.3),C.tr false (T.int i64 m.c.4),C.tr false (T.int i64 m.c.5),C.tr false (T.int i64 m.c.6),C.tr false q2,C.tr false (T.arr 1 m.3.length (cutT 0 m.3.length (eL 1 rowI m.3).fn))])] fun (r4:Int)=>bif decide (m.c.1 < i64.wrap (r4+1)) then some ([(false,[.tr true (T.int i64 5)])],[(true,[.tr true (T.int i64 m.c.1),.tr true (T.int i64 m.c.2),.tr true (T.int i64 m.c.3),.tr true (T.int i64 m.c.4),.tr true (T.int i64 m.c.5),.tr true (T.int i64 m.c.6),.tr true (eL 11 Rm.cs m.2),.tr true (eL 1 rowI m.3)]),(false,[]),(false,[]),(false,[])]) else gd ((0+j.toNat).blt m.2.length&&true&&T.isI i64 (atL Rm.cs m.2 (0+j.toNat) (6+0)))<|gd ((0+j.toNat).blt m.2.length&&true&&true)<|gd ((0+j.toNat).blt m.2.length&&true&&true)<|gd ((0+j.toNat).blt m.2.length&&true&&true)<|gd ((0+j.toNat).blt m.2.length&&true&&T.isI i64 q5)<|entK ok_sAlignUp ea_sAlignUp (f_sAlignUp) [(0,false,[C.tr false (T.int i64 q5.toI)]),(0,false,[C.tr false (T.int i64 al)])] fun (r5:Int)=>gd ((0+j.toNat).blt m.2.length&&true&&true)<|some ([(false,[.tr true (T.int i64 0)])],[(true,[.tr true (T.int i64 m.c.1),.tr true (T.int i64 m.c.2),.tr true (T.int i64 m.c.3),.tr true (T.int i64 m.c.4),.tr true (T.int i64 m.c.5),.tr true (T.int i64 m.c.6),.tr true (.arr (11) (m.2.length) (setF (0+j.toNat) 8 (T.int i64 (i64.wrap (r5+sz))) (setF (0+j.toNat) 8 (T.int i64 0) q4))),.tr true (eL 1 rowI m.3)]),(false,[]),(false,[]),(false,[])]) else gd ((0+j.toNat).blt m.2.length&&true&&T.isI i64 q1)<|entK ok_sAlignUp ea_sAlignUp (f_sAlignUp) [(0,false,[C.tr false (T.int i64 q1.toI)]),(0,false,[C.tr false (T.int i64 al)])] fun (r6:Int)=>gd ((0+j.toNat).blt m.2.length&&true&&true)<|some ([(false,[.tr true (T.int i64 0)])],[(true,[.tr true (T.int i64 m.c.1),.tr true (T.int i64 m.c.2),.tr true (T.int i64 m.c.3),.tr true (T.int i64 m.c.4),.tr true (T.int i64 m.c.5),.tr true (T.int i64 m.c.6),.tr true (.arr (11) (m.2.length) (setF (0+j.toNat) 8 (T.int i64 (i64.wrap (r6+sz))) (atL Rm.cs m.2))),.tr true (eL 1 rowI m.3)]),(false,[]),(false,[]),(false,[])])):=by kernel_rfl
end Go.Mach.F
namespace Go.Mach.F
open Go Go.Mach Go.Proofs.Tryz Go.IntKind
theorem set_get {α:Type} {l:List α} {j:Nat} {x y:α} (h:l[j]?=some x):(l.set j y)[j]?=some y:=by
 rw [List.getElem?_set_self (List.getElem?_eq_some_iff.1 h).1]
theorem body_sSml (m:Ml) (j sz al:Int) (n:Nat) (h:ok_sSml (m,j,sz,al)):body prog tb29 kp_sSml n F_sSml (ea_sSml (m,j,sz,al))=some ([oT (.int .i64 (f_sSml (m,j,sz,al)).2)],[oR (f_sSml (m,j,sz,al)).1.cs,nul,nul,nul]):=by
 obtain ⟨hl,e0,e1⟩:m.rooms.length≤LM∧0≤j∧j.toNat < m.rooms.length:=h
 have c0:ok_sTakenBy m:=hl
 have hx:=getD_get e1
 unfold ea_sSml f_sSml smlM needC rmJ
 dsimp only
 rw [pre_sSml]
 obtain ⟨x,hxe⟩:∃ x,x=m.rooms.getD j.toNat zRm:=⟨_,rfl⟩
 rw [← hxe] at hx ⊢
 have c1:ok_sAlignUp (x.bump,al):=trivial
 have c2:ok_sAlignUp (0,al):=trivial
 simp only [rsx0,e0,e1,Nat.add_zero,atL_of hx,Rm.cs,ble_d,Nat.le_refl,cut_all]
 have fin:∀ (y:Rm),Rm.cs y=(Rm.cs x).set 8 (.int .i64 y.bump)→setF j.toNat 8 (.int .i64 y.bump) (atL Rm.cs m.rooms)=atL Rm.cs (m.rooms.set j.toNat y):=fun y hy=>setF_list hx hy (by decide:8 < 11)
 have fin2:∀ (b:Int),setF j.toNat 8 (.int .i64 b) (setF j.toNat 8 (.int .i64 0) (setF j.toNat 7 (.bool true) (setF j.toNat 6 (.int .i64 (i64.wrap (x.chunks+1))) (atL Rm.cs m.rooms))))=atL Rm.cs (m.rooms.set j.toNat { x with chunks:=i64.wrap (x.chunks+1),cur:=true,bump:=b }):=fun b=>by
  rw [setF_setF,setF_list (y:={ x with chunks:=i64.wrap (x.chunks+1) }) hx rfl (by decide:6 < 11),setF_list (y:={ x with chunks:=i64.wrap (x.chunks+1),cur:=true }) (set_get hx) rfl (by decide:7 < 11),List.set_set,
   setF_list (y:={ x with chunks:=i64.wrap (x.chunks+1),cur:=true,bump:=b }) (set_get hx) rfl (by decide:8 < 11),List.set_set]
 cases hc:x.cur with
 | false =>
  simp only [Bool.not_false,cond_true,Bool.true_or,Bool.true_and]
  rw [entK_of (dm_sTakenBy c0) (iv_sTakenBy c0)]
  simp only [d_sTakenBy]
  by_cases h1:m.c.chunks < i64.wrap (tkn m.rooms+1)
  ·simp only [h1,decide_true,cond_true]
   rfl
  ·simp only [h1,decide_false,cond_false,setF_at,isI_int,toI_int,gdt]
   rw [entK_of (dm_sAlignUp c2) (iv_sAlignUp c2)]
   simp only [d_sAlignUp,fin2,oR,Ml.cs,setJ,smlR,cond_true,eL_T,List.length_set]
   rfl
 | true =>
  simp only [Bool.not_true,cond_false,Bool.false_or]
  rw [entK_of (dm_sAlignUp c1) (iv_sAlignUp c1)]
  simp only [d_sAlignUp]
  by_cases h2:m.c.size < i64.wrap (aup x.bump al+sz)
  ·simp only [h2,decide_true,cond_true,Bool.true_and]
   rw [entK_of (dm_sTakenBy c0) (iv_sTakenBy c0)]
   simp only [d_sTakenBy]
   by_cases h1:m.c.chunks < i64.wrap (tkn m.rooms+1)
   ·simp only [h1,decide_true,cond_true]
    rfl
   ·simp only [h1,decide_false,cond_false,setF_at,isI_int,toI_int,gdt]
    rw [entK_of (dm_sAlignUp c2) (iv_sAlignUp c2)]
    simp only [d_sAlignUp,fin2,oR,Ml.cs,setJ,smlR,cond_true,eL_T,List.length_set]
    rfl
  ·simp only [h2,decide_false,cond_false,Bool.false_and]
   rw [entK_of (dm_sAlignUp c1) (iv_sAlignUp c1)]
   simp only [d_sAlignUp]
   have:=fin { x with bump:=i64.wrap (aup x.bump al+sz) } rfl
   simp only [hc] at this
   simp only [this,hc,oR,Ml.cs,setJ,smlR,cond_false,eL_T,List.length_set]
   rfl
theorem s_sSml:EntOk prog i_sSml e_sSml:=ent_ok ea_sSml_inj fun x hx =>
 body_sound (φ:=tb29) (tabS_cons s_sTakenBy (tabS_cons s_sAlignUp tabS_nil)) mixed (kp:=kp_sSml) (n:=0) func157 (c:=bodyOf F_sSml) (by kernel_rfl) (body_sSml x.1 x.2.1 x.2.2.1 x.2.2.2 (0) hx) (name_ok (by kernel_rfl))
end Go.Mach.F
namespace Go.Mach.F
open Go Go.Mach Go.Proofs.Tryz Go.IntKind
--=set_option maxRecDepth 100000
def szOk (sz al:Int):Bool:=inR sz 1 200&&isAl al
def ok_iSzOk (x:Int × Int):Prop:=True
def ea_iSzOk (x:Int × Int):List Arg:=[aI x.1,aI x.2]
def f_iSzOk (x:Int × Int):Bool:=szOk x.1 x.2
noncomputable def e_iSzOk:Ent:=ent [] ok_iSzOk ea_iSzOk (erB 2) f_iSzOk
theorem ea_iSzOk_inj (x y:Int × Int) (h:ea_iSzOk x=ea_iSzOk y):x=y:=by
 obtain ⟨sz1,al1⟩:=x
 obtain ⟨sz2,al2⟩:=y
 simp only [ea_iSzOk,List.cons.injEq,and_true,true_and] at h
 obtain ⟨e0,e1⟩:=h
 obtain rfl:=aI_inj e0
 obtain rfl:=aI_inj e1
 rfl
theorem dm_iSzOk {sz:Int} {al:Int} (h:ok_iSzOk (sz,al)):dom ok_iSzOk ea_iSzOk [(0,false,[C.tr false (T.int i64 sz)]),(0,false,[C.tr false (T.int i64 al)])]=true:=dom_ea (ea:=ea_iSzOk) (x:=(sz,al)) h
theorem iv_iSzOk {sz:Int} {al:Int} (h:ok_iSzOk (sz,al)):inv ok_iSzOk ea_iSzOk [(0,false,[C.tr false (T.int i64 sz)]),(0,false,[C.tr false (T.int i64 al)])]=(sz,al):=inv_ea ea_iSzOk_inj (x:=(sz,al)) h
theorem d_iSzOk (sz:Int) (al:Int):f_iSzOk (sz,al)=szOk sz al:=rfl
def i_iSzOk:Nat:=119
noncomputable abbrev F_iSzOk:Func:=f119
def kp_iSzOk:List (Nat × List Nat):=[(0,[0,4,32,36]),(1,[16])]
theorem pre_iSzOk (sz:Int) (al:Int) (n:Nat):body prog tb23 kp_iSzOk n F_iSzOk [aI sz,aI al]=(bif decide (1≤sz) then bif decide (sz≤200) then bif al == 1 then some ([(false,[.tr true (T.bool true)])],[(false,[]),(false,[])]) else bif al == 2 then some ([(false,[.tr true (T.bool true)])],[(false,[]),(false,[])]) else some ([(false,[.tr true (T.bool (al == 4))])],[(false,[]),(false,[])]) else some ([(false,[.tr true (T.bool false)])],[(false,[]),(false,[])]) else some ([(false,[.tr true (T.bool false)])],[(false,[]),(false,[])])):=by kernel_rfl
def ok_sAlg (x:Int):Prop:=True
def ea_sAlg (x:Int):List Arg:=[aI x]
def f_sAlg (x:Int):Bool:=isAl x
noncomputable def e_sAlg:Ent:=ent [] ok_sAlg ea_sAlg (erB 1) f_sAlg
theorem ea_sAlg_inj (x y:Int) (h:ea_sAlg x=ea_sAlg y):x=y:=by
 simp only [ea_sAlg,List.cons.injEq,and_true,true_and] at h
 exact aI_inj h
theorem dm_sAlg {y:Int} (h:ok_sAlg y):dom ok_sAlg ea_sAlg [(0,false,[C.tr false (T.int i64 y)])]=true:=dom_ea (ea:=ea_sAlg) (x:=y) h
theorem iv_sAlg {y:Int} (h:ok_sAlg y):inv ok_sAlg ea_sAlg [(0,false,[C.tr false (T.int i64 y)])]=y:=inv_ea ea_sAlg_inj (x:=y) h
theorem d_sAlg (y:Int):f_sAlg y=isAl y:=rfl
def i_sAlg:Nat:=155
noncomputable abbrev F_sAlg:Func:=f155
def kp_sAlg:List (Nat × List Nat):=[(0,[0,24,28,40,44]),(1,[8])]
theorem pre_sAlg (y:Int) (n:Nat):body prog (tabS []) kp_sAlg n F_sAlg [aI y]=(bif y == 1 then some ([(false,[.tr true (T.bool true)])],[(false,[])]) else bif y == 2 then some ([(false,[.tr true (T.bool true)])],[(false,[])]) else some ([(false,[.tr true (T.bool (y == 4))])],[(false,[])])):=by kernel_rfl
end Go.Mach.F
namespace Go.Mach.F
open Go Go.Mach Go.Proofs.Tryz
theorem body_iSzOk (sz al:Int) (n:Nat) (h:ok_iSzOk (sz,al)):body prog tb23 kp_iSzOk n F_iSzOk (ea_iSzOk (sz,al))=some (erB 2 (f_iSzOk (sz,al))):=by
 unfold ea_iSzOk f_iSzOk szOk inR isAl
 dsimp only
 rw [pre_iSzOk]
 simp only [int_eq]
 by_cases h1:1≤sz <;> by_cases h2:sz≤200 <;> by_cases h3:al=1 <;> by_cases h4:al=2 <;> by_cases h5:al=4 <;> simp only [h1,h2,h3,h4,h5,decide_true,decide_false,cond_true,cond_false,Bool.and_false,Bool.false_and,Bool.and_self,Bool.or_self,Bool.true_or,Bool.or_true,Bool.true_and] <;> rfl
theorem s_iSzOk:EntOk prog i_iSzOk e_iSzOk:=ent_ok ea_iSzOk_inj fun x hx =>
 body_sound (φ:=tb23) (tabS_cons s_within (tabS_cons s_iisAl tabS_nil)) mixed (kp:=kp_iSzOk) (n:=0) func119 (c:=bodyOf F_iSzOk) (by kernel_rfl) (body_iSzOk x.1 x.2 (0) hx) (name_ok (by kernel_rfl))
theorem body_sAlg (y:Int) (n:Nat) (h:ok_sAlg y):body prog (tabS []) kp_sAlg n F_sAlg (ea_sAlg y)=some (erB 1 (f_sAlg y)):=by
 unfold ea_sAlg f_sAlg isAl
 rw [pre_sAlg]
 simp only [int_eq]
 by_cases h3:y=1 <;> by_cases h4:y=2 <;> by_cases h5:y=4 <;> simp only [h3,h4,h5,decide_true,decide_false,cond_true,cond_false,Bool.or_self,Bool.true_or,Bool.or_true] <;> rfl
theorem s_sAlg:EntOk prog i_sAlg e_sAlg:=ent_ok ea_sAlg_inj fun x hx =>
 body_sound (φ:=(tabS [])) tabS_nil mixed (kp:=kp_sAlg) (n:=0) func155 (c:=bodyOf F_sAlg) (by kernel_rfl) (body_sAlg x (0) hx) (name_ok (by kernel_rfl))
end Go.Mach.F
namespace Go.Mach.F
open Go Go.Mach Go.Proofs.Tryz Go.IntKind
--=set_option maxRecDepth 100000
def thgR (x:Rm) (sz:Int):Rm:={ x with things:=x.things ++ [⟨List.replicate sz.toNat 0⟩] }
def bigR (x:Rm) (k:Int):Rm:={ x with chunks:=i64.wrap (x.chunks+k) }
def alcR (m:Ml) (j sz al:Int) (fr:Bool):Ml × Int :=
 bif decide (12≤((rmJ m j).things.length:Int)) then (m,8) else
 bif decide (m.c.size < sz) then (bif decide (m.c.chunks < i64.wrap (tkn m.rooms+cdv sz m.c.size)) then (m,5) else bif fr then (m,6) else (setJ m j (thgR (bigR (rmJ m j) (cdv sz m.c.size)) sz),0))
 else bif needC m (rmJ m j) sz al&&decide (m.c.chunks < i64.wrap (tkn m.rooms+1)) then (m,5) else (setJ m j (thgR (smlR (rmJ m j) (needC m (rmJ m j) sz al) sz al) sz),0)
def alcM (m:Ml) (h:Hd) (sz al:Int) (fr:Bool):Ml × Int :=
 bif szOk sz al then (bif decide ((rsv m h).2=0) then alcR m (rsv m h).1 sz al fr else (m,(rsv m h).2)) else (m,1)
def i_isLg:Nat:=120
noncomputable abbrev F_isLg:Func:=f120
def kp_isLg:List (Nat × List Nat):=[(0,[4,8,9]),(1,[16])]
noncomputable def e_isLg:Ent:=inl [] prog (tabS []) kp_isLg 0 F_isLg
theorem s_isLg:EntOk prog i_isLg e_isLg:=inl_ok tabS_nil mixed (c:=bodyOf F_isLg) func120 (by kernel_rfl) (name_ok (by kernel_rfl))
def i_ssLg:Nat:=156
noncomputable abbrev F_ssLg:Func:=f156
def kp_ssLg:List (Nat × List Nat):=[(0,[4,8,9]),(1,[16])]
noncomputable def e_ssLg:Ent:=inl [] prog (tabS []) kp_ssLg 0 F_ssLg
theorem s_ssLg:EntOk prog i_ssLg e_ssLg:=inl_ok tabS_nil mixed (c:=bodyOf F_ssLg) func156 (by kernel_rfl) (name_ok (by kernel_rfl))
def i_iCF:Nat:=121
noncomputable abbrev F_iCF:Func:=f121
def kp_iCF:List (Nat × List Nat):=[(0,[4,8,9]),(1,[16])]
noncomputable def e_iCF:Ent:=inl [] prog (tabS [(i_iCeilDiv,e_iCeilDiv)]) kp_iCF 0 F_iCF
theorem s_iCF:EntOk prog i_iCF e_iCF:=inl_ok (tabS_cons s_iCeilDiv tabS_nil) mixed (c:=bodyOf F_iCF) func121 (by kernel_rfl) (name_ok (by kernel_rfl))
def i_sCF:Nat:=158
noncomputable abbrev F_sCF:Func:=f158
def kp_sCF:List (Nat × List Nat):=[(0,[4,8,9]),(1,[16])]
noncomputable def e_sCF:Ent:=inl [] prog (tabS [(i_sCeilDiv,e_sCeilDiv)]) kp_sCF 0 F_sCF
theorem s_sCF:EntOk prog i_sCF e_sCF:=inl_ok (tabS_cons s_sCeilDiv tabS_nil) mixed (c:=bodyOf F_sCF) func158 (by kernel_rfl) (name_ok (by kernel_rfl))
def i_itakes:Nat:=114
noncomputable abbrev F_itakes:Func:=f114
def kp_itakes:List (Nat × List Nat):=[(0,[4,8,9]),(1,[16])]
noncomputable def e_itakes:Ent:=inl [] prog (tabS [(i_iTakenBy,e_iTakenBy)]) kp_itakes 0 F_itakes
theorem s_itakes:EntOk prog i_itakes e_itakes:=inl_ok (tabS_cons s_iTakenBy tabS_nil) mixed (c:=bodyOf F_itakes) func114 (by kernel_rfl) (name_ok (by kernel_rfl))
def ok_iEagerAlloc (x:Ml × Hd × Int × Int × Bool):Prop:=ok_RmS x.1.rooms∧ok_LI x.1.log
def ea_iEagerAlloc (x:Ml × Hd × Int × Int × Bool):List Arg:=[aR x.1.cs,aR x.2.1.cs,aI x.2.2.1,aI x.2.2.2.1,aB x.2.2.2.2]
def f_iEagerAlloc (x:Ml × Hd × Int × Int × Bool):Ml × Int:=alcM x.1 x.2.1 x.2.2.1 x.2.2.2.1 x.2.2.2.2
noncomputable def e_iEagerAlloc:Ent:=ent [] ok_iEagerAlloc ea_iEagerAlloc (fun (x:Ml × Int)=>([oR x.1.cs,oT (.int .i64 x.2)],[nul,nul,nul,nul,nul])) f_iEagerAlloc
theorem ea_iEagerAlloc_inj (x y:Ml × Hd × Int × Int × Bool) (h:ea_iEagerAlloc x=ea_iEagerAlloc y):x=y:=by
 obtain ⟨m1,h1,sz1,al1,fr1⟩:=x
 obtain ⟨m2,h2,sz2,al2,fr2⟩:=y
 simp only [ea_iEagerAlloc,List.cons.injEq,and_true,true_and] at h
 obtain ⟨e0,e1,e2,e3,e4⟩:=h
 obtain rfl:=Ml.cs_ext (aR_inj e0)
 obtain rfl:=Hd.cs_ext (aR_inj e1)
 obtain rfl:=aI_inj e2
 obtain rfl:=aI_inj e3
 obtain rfl:=aB_inj e4
 rfl
theorem dm_iEagerAlloc {m:Ml} {h:Hd} {sz:Int} {al:Int} {fr:Bool} (h0:ok_iEagerAlloc (m,h,sz,al,fr)):dom ok_iEagerAlloc ea_iEagerAlloc [(wMl m),(wHd h),(0,false,[C.tr false (T.int i64 sz)]),(0,false,[C.tr false (T.int i64 al)]),(0,false,[C.tr false (T.bool fr)])]=true:=dom_ea (ea:=ea_iEagerAlloc) (x:=(m,h,sz,al,fr)) h0
theorem iv_iEagerAlloc {m:Ml} {h:Hd} {sz:Int} {al:Int} {fr:Bool} (h0:ok_iEagerAlloc (m,h,sz,al,fr)):inv ok_iEagerAlloc ea_iEagerAlloc [(wMl m),(wHd h),(0,false,[C.tr false (T.int i64 sz)]),(0,false,[C.tr false (T.int i64 al)]),(0,false,[C.tr false (T.bool fr)])]=(m,h,sz,al,fr):=inv_ea ea_iEagerAlloc_inj (x:=(m,h,sz,al,fr)) h0
theorem d_iEagerAlloc (m:Ml) (h:Hd) (sz:Int) (al:Int) (fr:Bool):f_iEagerAlloc (m,h,sz,al,fr)=alcM m h sz al fr:=rfl
def i_iEagerAlloc:Nat:=59
noncomputable abbrev F_iEagerAlloc:Func:=f59
def kp_iEagerAlloc:List (Nat × List Nat):=[(0,[8,12,16,20,21,24,25,40,41,48,49,60,72,92,132,176,180,184,188,192,244,256,316,320,324,328,332,336,340,344,348,352,356,360,376,528]),(1,[8,12,16,20,21,24,25,40,41,48,49,60,72,92,132,176,180,184,188,192,244,256,316,320,324,328,332,336,340,344,348,352,356,360,376,528]),(2,[8,12,16,20,21,24,25,40,41,48,49,60,72,88,92,132,176,180,184,188,192,244,256,316,320,324,328,332,336,340,344,348,352,356,360,376,528]),(3,[40,41,44,48,49,72,92,132,176,244,256,376,528]),(4,[8,12,16,20,21,40,41,48,49,52,56,60,72,92,132,176,180,184,188,192,244,256,316,320,324,328,332,336,340,344,348,352,356,360,376,528]),(5,[8,12,16,20,21,40,41,48,49,52,56,60,72,92,120,132,176,180,184,188,192,244,256,316,320,324,328,332,336,340,344,348,352,356,360,376,528]),(6,[40,41,44,48,49,72,92,132,176,244,256,376,528]),(7,[8,12,16,20,21,40,41,48,49,52,60,72,92,132,140,176,180,184,188,192,244,256,316,320,324,328,332,336,340,344,348,352,356,360,376,528]),(8,[40,41,44,48,49,72,92,132,176,244,256,376,528]),(9,[8,12,16,20,21,40,41,48,49,60,72,92,132,176,180,184,188,192,244,256,316,320,324,328,332,336,340,344,348,352,356,360,376,528]),(10,[8,12,16,20,21,40,41,48,49,60,72,92,132,176,180,184,188,192,208,244,256,316,320,324,328,332,336,340,344,348,352,356,360,376,528]),(11,[8,16,20,21,40,41,48,49,60,64,72,92,132,176,180,184,188,192,244,256,376,528]),(12,[8,16,40,41,48,49,60,64,72,92,132,176,180,184,188,192,228,244,256,376,528]),(13,[40,41,44,48,49,72,92,132,176,244,256,376,528]),(14,[8,40,41,48,49,60,64,72,92,132,176,180,184,188,192,244,248,256,376,528]),(15,[40,41,44,48,49,72,92,132,176,244,256,376,528]),(16,[8,40,41,48,49,60,72,92,132,176,180,184,188,192,244,256,376,528]),(17,[8,12,20,21,40,41,48,49,60,72,92,132,176,180,184,188,192,244,256,364,376,528]),(18,[8,12,40,41,48,49,60,72,92,132,176,180,184,188,192,244,256,372,376,528]),(19,[40,41,44,48,49,72,92,132,176,244,256,376,528]),(20,[8,12,40,41,48,49,60,72,92,132,176,180,184,188,192,244,256,376,528]),(21,[8,40,41,48,49,60,72,92,132,176,180,184,188,192,244,256,376,528]),(22,[40,41,48,49,72,92,132,176,244,256,376,528]),(23,[40,41,44,48,49,72,92,132,176,244,256,376,528])]
noncomputable abbrev tb30:Sems:=tabS [(i_iModel,e_iModel),(i_iSzOk,e_iSzOk),(i_iRsv,e_iRsv),(i_isLg,e_isLg),(i_iCF,e_iCF),(i_itakes,e_itakes),(i_iAlignUp,e_iAlignUp)]
theorem pre_iEagerAlloc (m:Ml) (h:Hd) (sz:Int) (al:Int) (fr:Bool) (n:Nat):body prog tb30 kp_iEagerAlloc n F_iEagerAlloc [aR m.cs,aR h.cs,aI sz,aI al,aB fr]=(entK ok_iModel ea_iModel (f_iModel) [(wMl m)] fun (r1:Ml)=>gl r1.2.length<|gl r1.3.length<|entK ok_iSzOk ea_iSzOk (f_iSzOk) [(0,false,[C.tr false (T.int i64 sz)]),(0,false,[C.tr false (T.int i64 al)])] fun (r2:Bool)=>bif !r2 then gl r1.2.length<|gl r1.3.length<|gl r1.2.length<|gl r1.3.length<|some ([(oR (Ml.cs r1)),(false,[.tr true (T.int i64 1)])],[(false,[]),(false,[]),(false,[]),(false,[]),(false,[])]) else entK ok_iRsv ea_iRsv (f_iRsv) [(wMl m),(wHd h)] fun (r3:Int × Int)=>let q0:=atL Rm.cs r1.2 (0+r3.1.toNat) 6;let q1:=atL Rm.cs r1.2 (0+r3.1.toNat) (6+0);let q2:=atL Rm.cs r1.2 (0+r3.1.toNat) (8+0);let q4:=setF (0+r3.1.toNat) 6 (T.int i64 (i64.wrap (q0.toI+1))) (eL 11 Rm.cs r1.2).fn;let q5:=setF (0+r3.1.toNat) 7 (T.bool true) q4;let q6:=setF (0+r3.1.toNat) 8 (T.int i64 0) q5;let q9:=setF (0+r3.1.toNat) 8 (T.int i64 0) q5 (0+r3.1.toNat) (8+0);bif r3.2 != 0 then gl r1.2.length<|gl r1.3.length<|gl r1.2.length<|gl r1.3.length<|some ([(oR (Ml.cs r1)),(false,[.tr true (T.int i64 r3.2)])],[(false,[]),(false,[]),(false,[]),(false,[]),(false,[])]) else gd (decide (0≤r3.1)&&(r3.1.toNat.blt m.2.length&&true))<|gd ((atL Rm.cs m.2 r3.1.toNat 9).isArr&&(atL Rm.cs m.2 r3.1.toNat 9).wd.beq 1)<|bif decide (12≤(↑(atL Rm.cs m.2 r3.1.toNat 9).ln:Int)) then gl r1.2.length<|gl r1.3.length<|gl r1.2.length<|gl r1.3.length<|some ([(oR (Ml.cs r1)),(false,[.tr true (T.int i64 8)])],[(false,[]),(false,[]),(false,[]),(false,[]),(false,[])]) else gd (decide (0≤r3.1)&&(r3.1.toNat.blt r1.2.length&&true))<|bif decide (m.c.2 < sz) then entK ok_iCeilDiv ea_iCeilDiv (f_iCeilDiv) [(0,false,[C.tr false (T.int i64 sz)]),(0,false,[C.tr false (T.int i64 m.c.2)])] fun (r4:Int)=>let q12:=setF (0+r3.1.toNat) 6 (T.int i64 (i64.wrap (q0.toI+r4))) (eL 11 Rm.cs r1.2).fn;let q16:=setF (0+r3.1.toNat) 6 (T.int i64 (i64.wrap (q0.toI+r4))) (eL 11 Rm.cs r1.2).fn (0+r3.1.toNat) 9;let q18:=setF (0+r3.1.toNat) 6 (T.int i64 (i64.wrap (q0.toI+r4))) (eL 11 Rm.cs r1.2).fn (0+r3.1.toNat) (9+0);entK ok_iTakenBy ea_iTakenBy (f_iTakenBy) [(wMl m)] fun (r5:Int)=>bif decide (m.c.1 < i64.wrap (r5+r4)) then gl r1.2.length<|gl r1.3.length<|gl r1.2.length<|gl r1.3.length<|some ([(oR (Ml.cs r1)),(false,[.tr true (T.int i64 5)])],[(false,[]),(false,[]),(false,[]),(false,[]),(false,[])]) else bif fr then gl r1.2.length<|gl r1.3.length<|gl r1.2.length<|gl r1.3.length<|some ([(oR (Ml.cs r1)),(false,[.tr true (T.int i64 6)])],[(false,[]),(false,[]),(false,[]),(false,[]),(false,[])]) else gd ((0+r3.1.toNat).blt r1.2.length&&true&&T.isI i64 q1)<|gd ((0+r3.1.toNat).blt r1.2.length&&true&&true)<|gd ((0+r3.1.toNat).blt r1.2.length&&true&&(q18.isArr&&q18.wd.beq 1))<|gd (decide (0≤sz)&&(decide (sz≤sz)&&((sz.toNat * 1).ble 70368744177664&&sz.toNat.ble 70368744177664)))<|gl sz.toNat<|gl sz.toNat<|gd ((0+r3.1.toNat).blt r1.2.length&&true&&true&&((T.arr 11 r1.2.length q12).get [0+r3.1.toNat,9+0]).isArr)<|gd (q18.ln.ble ((T.arr 11 r1.2.length q12).get [0+r3.1.toNat,9+0]).ln&&Nat.beq 1 ((T.arr 11 r1.2.length q12).get [0+r3.1.toNat,9+0]).wd)<|gd (((q18.ln+1) * 24).ble 70368744177664&&(q18.ln+1).ble 70368744177664)<|gd ((q18.ln+1).ble (q18.ln+1)&&true)<|gd ((0+r3.1.toNat).blt r1.2.length&&true&&true)<|gl r1.2.length<|gl r1.3.length<|gl r1.2.length<|gl r1.3.length<|some ([(true,[.tr true (T.int i64 r1.c.1),.tr true (T.int i64 r1.c.2),.tr true (T.int i64 r1.c.3),.tr true (T.int i64 r1.c.4),.tr true (T.int i64 r1.c.5),.tr true (T.int i64 r1.c.6),.tr true (.arr (11) (r1.2.length) (setF (0+r3.1.toNat) 9 (T.arr 1 (q16.ln+1) (appF q16.ln ((T.arr 11 r1.2.length q12).get [0+r3.1.toNat,9]).fn (rowsT [[T.arr 1 sz.toNat (cutT 0 sz.toNat (zeroT prog 5))]]))) (setF (0+r3.1.toNat) 9 T.hole q12))),.tr true (.arr (1) (r1.3.length) ((eL 1 rowI r1.3).fn))]),(false,[.tr true (T.int i64 0)])],[(false,[]),(false,[]),(false,[]),(false,[]),(false,[])]) else gd ((0+r3.1.toNat).blt r1.2.length&&true&&(atL Rm.cs r1.2 (0+r3.1.toNat) (7+0)).isB)<|bif !(atL Rm.cs r1.2 (0+r3.1.toNat) (7+0)).toB then entK ok_iTakenBy ea_iTakenBy (f_iTakenBy) [(wMl m)] fun (r7:Int)=>bif decide (m.c.1 < i64.wrap (r7+1)) then gl r1.2.length<|gl r1.3.length<|gl r1.2.length<|gl r1.3.length<|some ([(oR (Ml.cs r1)),(false,[.tr true (T.int i64 5)])],[(false,[]),(false,[]),(false,[]),(false,[]),(false,[])]) else gd ((0+r3.1.toNat).blt r1.2.length&&true&&T.isI i64 q1)<|gd ((0+r3.1.toNat).blt r1.2.length&&true&&true)<|gd ((0+r3.1.toNat).blt r1.2.length&&true&&true)<|gd ((0+r3.1.toNat).blt r1.2.length&&true&&true)<|gd ((0+r3.1.toNat).blt r1.2.length&&true&&T.isI i64 q9)<|entK ok_iAlignUp ea_iAlignUp (f_iAlignUp) [(0,false,[C.tr false (T.int i64 q9.toI)]),(0,false,[C.tr false (T.int i64 al)])] fun (r8:Int)=>let q7:=setF (0+r3.1.toNat) 8 (T.int i64 (i64.wrap (r8+sz))) q6;let q10:=setF (0+r3.1.toNat) 8 (T.int i64 (i64.wrap (r8+sz))) q6 (0+r3.1.toNat) 9;let q13:=setF (0+r3.1.toNat) 8 (T.int i64 (i64.wrap (r8+sz))) q6 (0+r3.1.toNat) (9+0);gd ((0+r3.1.toNat).blt r1.2.length&&true&&true)<|gd ((0+r3.1.toNat).blt r1.2.length&&true&&(q13.isArr&&q13.wd.beq 1))<|gd (decide (0≤sz)&&(decide (sz≤sz)&&((sz.toNat * 1).ble 70368744177664&&sz.toNat.ble 70368744177664)))<|gl sz.toNat<|gl sz.toNat<|gd ((0+r3.1.toNat).blt r1.2.length&&true&&true&&((T.arr 11 r1.2.length q7).get [0+r3.1.toNat,9+0]).isArr)<|gd (q13.ln.ble ((T.arr 11 r1.2.length q7).get [0+r3.1.toNat,9+0]).ln&&Nat.beq 1 ((T.arr 11 r1.2.length q7).get [0+r3.1.toNat,9+0]).wd)<|gd (((q13.ln+1) * 24).ble 70368744177664&&(q13.ln+1).ble 70368744177664)<|gd ((q13.ln+1).ble (q13.ln+1)&&true)<|gd ((0+r3.1.toNat).blt r1.2.length&&true&&true)<|gl r1.2.length<|gl r1.3.length<|gl r1.2.length<|gl r1.3.length<|some ([(true,[.tr true (T.int i64 r1.c.1),.tr true (T.int i64 r1.c.2),.tr true (T.int i64 r1.c.3),.tr true (T.int i64 r1.c.4),.tr true (T.int i64 r1.c.5),.tr true (T.int i64 r1.c.6),.tr true (.arr (11) (r1.2.length) (setF (0+r3.1.toNat) 9 (T.arr 1 (q10.ln+1) (appF q10.ln ((T.arr 11 r1.2.length q7).get [0+r3.1.toNat,9]).fn (rowsT [[T.arr 1 sz.toNat (cutT 0 sz.toNat (zeroT prog 5))]]))) (setF (0+r3.1.toNat) 9 T.hole q7))),.tr true (.arr (1) (r1.3.length) ((eL 1 rowI r1.3).fn))]),(false,[.tr true (T.int i64 0)])],[(false,[]),(false,[]),(false,[]),(false,[]),(false,[])]) else gd ((0+r3.1.toNat).blt r1.2.length&&true&&T.isI i64 q2)<|entK ok_iAlignUp ea_iAlignUp (f_iAlignUp) [(0,false,[C.tr false (T.int i64 q2.toI)]),(0,false,[C.tr false (T.int i64 al)])] fun (r6:Int)=>bif decide (m.c.2 < i64.wrap (r6+sz)) then entK ok_iTakenBy ea_iTakenBy (f_iTakenBy) [(wMl m)] fun (r9:Int)=>bif decide (m.c.1 < i64.wrap (r9+1)) then gl r1.2.length<|gl r1.3.length<|gl r1.2.length<|gl r1.3.length<|some ([(oR (Ml.cs r1)),(false,[.tr true (T.int i64 5)])],[(false,[]),(false,[]),(false,[]),(false,[]),(false,[])]) else gd ((0+r3.1.toNat).blt r1.2.length&&true&&T.isI i64 q1)<|gd ((0+r3.1.toNat).blt r1.2.length&&true&&true)<|gd ((0+r3.1.toNat).blt r1.2.length&&true&&true)<|gd ((0+r3.1.toNat).blt r1.2.length&&true&&true)<|gd ((0+r3.1.toNat).blt r1.2.length&&true&&T.isI i64 q9)<|entK ok_iAlignUp ea_iAlignUp (f_iAlignUp) [(0,false,[C.tr false (T.int i64 q9.toI)]),(0,false,[C.tr false (T.int i64 al)])] fun (r10:Int)=>let q8:=setF (0+r3.1.toNat) 8 (T.int i64 (i64.wrap (r10+sz))) q6;let q11:=setF (0+r3.1.toNat) 8 (T.int i64 (i64.wrap (r10+sz))) q6 (0+r3.1.toNat) 9;let q14:=setF (0+r3.1.toNat) 8 (T.int i64 (i64.wrap (r10+sz))) q6 (0+r3.1.toNat) (9+0);gd ((0+r3.1.toNat).blt r1.2.length&&true&&true)<|gd ((0+r3.1.toNat).blt r1.2.length&&true&&(q14.isArr&&q14.wd.beq 1))<|gd (decide (0≤sz)&&(decide (sz≤sz)&&((sz.toNat * 1).ble 70368744177664&&sz.toNat.ble 70368744177664)))<|gl sz.toNat<|gl sz.toNat<|gd ((0+r3.1.toNat).blt r1.2.length&&true&&true&&((T.arr 11 r1.2.length q8).get [0+r3.1.toNat,9+0]).isArr)<|gd (q14.ln.ble ((T.arr 11 r1.2.length q8).get [0+r3.1.toNat,9+0]).ln&&Nat.beq 1 ((T.arr 11 r1.2.length q8).get [0+r3.1.toNat,9+0]).wd)<|gd (((q14.ln+1) * 24).ble 70368744177664&&(q14.ln+1).ble 70368744177664)<|gd ((q14.ln+1).ble (q14.ln+1)&&true)<|gd ((0+r3.1.toNat).blt r1.2.length&&true&&true)<|gl r1.2.length<|gl r1.3.length<|gl r1.2.length<|gl r1.3.length<|some ([(true,[.tr true (T.int i64 r1.c.1),.tr true (T.int i64 r1.c.2),.tr true (T.int i64 r1.c.3),.tr true (T.int i64 r1.c.4),.tr true (T.int i64 r1.c.5),.tr true (T.int i64 r1.c.6),.tr true (.arr (11) (r1.2.length) (setF (0+r3.1.toNat) 9 (T.arr 1 (q11.ln+1) (appF q11.ln ((T.arr 11 r1.2.length q8).get [0+r3.1.toNat,9]).fn (rowsT [[T.arr 1 sz.toNat (cutT 0 sz.toNat (zeroT prog 5))]]))) (setF (0+r3.1.toNat) 9 T.hole q8))),.tr true (.arr (1) (r1.3.length) ((eL 1 rowI r1.3).fn))]),(false,[.tr true (T.int i64 0)])],[(false,[]),(false,[]),(false,[]),(false,[]),(false,[])]) else gd ((0+r3.1.toNat).blt r1.2.length&&true&&T.isI i64 q2)<|entK ok_iAlignUp ea_iAlignUp (f_iAlignUp) [(0,false,[C.tr false (T.int i64 q2.toI)]),(0,false,[C.tr false (T.int i64 al)])] fun (r11:Int)=>let q3:=setF (0+r3.1.toNat) 8 (T.int i64 (i64.wrap (r11+sz))) (eL 11 Rm.cs r1.2).fn;let q15:=setF (0+r3.1.toNat) 8 (T.int i64 (i64.wrap (r11+sz))) (eL 11 Rm.cs r1.2).fn (0+r3.1.toNat) 9;let q17:=setF (0+r3.1.toNat) 8 (T.int i64 (i64.wrap (r11+sz))) (eL 11 Rm.cs r1.2).fn (0+r3.1.toNat) (9+0);gd ((0+r3.1.toNat).blt r1.2.length&&true&&true)<|gd ((0+r3.1.toNat).blt r1.2.length&&true&&(q17.isArr&&q17.wd.beq 1))<|gd (decide (0≤sz)&&(decide (sz≤sz)&&((sz.toNat * 1).ble 70368744177664&&sz.toNat.ble 70368744177664)))<|gl sz.toNat<|gl sz.toNat<|gd ((0+r3.1.toNat).blt r1.2.length&&true&&true&&((T.arr 11 r1.2.length q3).get [0+r3.1.toNat,9+0]).isArr)<|gd (q17.ln.ble ((T.arr 11 r1.2.length q3).get [0+r3.1.toNat,9+0]).ln&&Nat.beq 1 ((T.arr 11 r1.2.length q3).get [0+r3.1.toNat,9+0]).wd)<|gd (((q17.ln+1) * 24).ble 70368744177664&&(q17.ln+1).ble 70368744177664)<|gd ((q17.ln+1).ble (q17.ln+1)&&true)<|gd ((0+r3.1.toNat).blt r1.2.length&&true&&true)<|gl r1.2.length<|gl r1.3.length<|gl r1.2.length<|gl r1.3.length<|some ([(true,[.tr true (T.int i64 r1.c.1),.tr true (T.int i64 r1.c.2),.tr true (T.int i64 r1.c.3),.tr true (T.int i64 r1.c.4),.tr true (T.int i64 r1.c.5),.tr true (T.int i64 r1.c.6),.tr true (.arr (11) (r1.2.length) (setF (0+r3.1.toNat) 9 (T.arr 1 (q15.ln+1) (appF q15.ln ((T.arr 11 r1.2.length q3).get [0+r3.1.toNat,9]).fn (rowsT [[T.arr 1 sz.toNat (cutT 0 sz.toNat (zeroT prog 5))]]))) (setF (0+r3.1.toNat) 9 T.hole q3))),.tr true (.arr (1) (r1.3.length) ((eL 1 rowI r1.3).fn))]),(false,[.tr true (T.int i64 0)])],[(false,[]),(false,[]),(false,[]),(false,[]),(false,[])])):=by kernel_rfl
def ok_sEagerAlloc (x:Ml × Hd × Int × Int × Bool):Prop:=ok_RmS x.1.rooms∧ok_LI x.1.log
def ea_sEagerAlloc (x:Ml × Hd × Int × Int × Bool):List Arg:=[aR x.1.cs,aR x.2.1.cs,aI x.2.2.1,aI x.2.2.2.1,aB x.2.2.2.2]
def f_sEagerAlloc (x:Ml × Hd × Int × Int × Bool):Ml × Int:=alcM x.1 x.2.1 x.2.2.1 x.2.2.2.1 x.2.2.2.2
noncomputable def e_sEagerAlloc:Ent:=ent [] ok_sEagerAlloc ea_sEagerAlloc (fun (x:Ml × Int)=>([oR x.1.cs,oT (.int .i64 x.2)],[nul,nul,nul,nul,nul])) f_sEagerAlloc
theorem ea_sEagerAlloc_inj (x y:Ml × Hd × Int × Int × Bool) (h:ea_sEagerAlloc x=ea_sEagerAlloc y):x=y:=by
 obtain ⟨m1,h1,sz1,al1,fr1⟩:=x
 obtain ⟨m2,h2,sz2,al2,fr2⟩:=y
 simp only [ea_sEagerAlloc,List.cons.injEq,and_true,true_and] at h
 obtain ⟨e0,e1,e2,e3,e4⟩:=h
 obtain rfl:=Ml.cs_ext (aR_inj e0)
 obtain rfl:=Hd.cs_ext (aR_inj e1)
 obtain rfl:=aI_inj e2
 obtain rfl:=aI_inj e3
 obtain rfl:=aB_inj e4
 rfl
theorem dm_sEagerAlloc {m:Ml} {h:Hd} {sz:Int} {al:Int} {fr:Bool} (h0:ok_sEagerAlloc (m,h,sz,al,fr)):dom ok_sEagerAlloc ea_sEagerAlloc [(wMl m),(wHd h),(0,false,[C.tr false (T.int i64 sz)]),(0,false,[C.tr false (T.int i64 al)]),(0,false,[C.tr false (T.bool fr)])]=true:=dom_ea (ea:=ea_sEagerAlloc) (x:=(m,h,sz,al,fr)) h0
theorem iv_sEagerAlloc {m:Ml} {h:Hd} {sz:Int} {al:Int} {fr:Bool} (h0:ok_sEagerAlloc (m,h,sz,al,fr)):inv ok_sEagerAlloc ea_sEagerAlloc [(wMl m),(wHd h),(0,false,[C.tr false (T.int i64 sz)]),(0,false,[C.tr false (T.int i64 al)]),(0,false,[C.tr false (T.bool fr)])]=(m,h,sz,al,fr):=inv_ea ea_sEagerAlloc_inj (x:=(m,h,sz,al,fr)) h0
theorem d_sEagerAlloc (m:Ml) (h:Hd) (sz:Int) (al:Int) (fr:Bool):f_sEagerAlloc (m,h,sz,al,fr)=alcM m h sz al fr:=rfl
def i_sEagerAlloc:Nat:=101
noncomputable abbrev F_sEagerAlloc:Func:=f101
def kp_sEagerAlloc:List (Nat × List Nat):=[(0,[8,12,16,20,21,24,25,40,41,48,49,68,88,92,96,104,144,148,152,156,160,164,168,172,188,356,428]),(1,[8,12,16,20,21,24,25,40,41,48,49,68,88,92,96,104,144,148,152,156,160,164,168,172,188,356,428]),(2,[8,12,16,20,21,24,25,40,41,48,49,68,100,104,144,148,152,156,160,164,168,172,188,356,428]),(3,[40,41,44,48,49,68,104,188,356,428]),(4,[8,12,16,20,21,40,41,48,49,52,56,68,104,144,148,152,156,160,164,168,172,188,356,428]),(5,[8,12,16,20,21,40,41,48,49,52,56,68,104,176,188,356,428]),(6,[8,12,16,20,21,40,41,48,49,52,56,68,104,188,356,428]),(7,[8,12,16,20,21,40,41,48,49,52,56,68,104,184,188,356,428]),(8,[40,41,44,48,49,68,104,188,356,428]),(9,[8,12,16,20,21,40,41,48,49,52,56,68,104,188,212,356,428]),(10,[8,20,21,40,41,48,49,52,56,68,104,188,356,428]),(11,[8,16,20,21,40,41,48,49,52,56,60,68,104,188,356,428]),(12,[8,20,21,40,41,48,49,52,56,68,104,188,356,428]),(13,[8,16,20,21,40,41,48,49,52,56,60,68,104,188,300,356,428]),(14,[8,20,21,40,41,48,49,52,56,68,104,188,356,428]),(15,[8,20,21,40,41,48,49,52,56,60,68,104,188,336,356,428]),(16,[8,20,21,40,41,48,49,52,56,68,104,188,356,428]),(17,[8,20,21,40,41,48,49,52,56,68,104,188,348,356,428]),(18,[40,41,44,48,49,68,104,188,356,428]),(19,[40,41,48,49,68,104,188,356,428]),(20,[40,41,44,48,49,68,104,188,356,428])]
noncomputable abbrev tb31:Sems:=tabS [(i_sModel,e_sModel),(i_l1In,e_l1In),(i_sAlg,e_sAlg),(i_sRsv,e_sRsv),(i_ssLg,e_ssLg),(i_sSml,e_sSml),(i_sCF,e_sCF),(i_sTakenBy,e_sTakenBy),(i_sZeros,e_sZeros)]
theorem pre_sEagerAlloc (m:Ml) (h:Hd) (sz:Int) (al:Int) (fr:Bool) (n:Nat):body prog tb31 kp_sEagerAlloc n F_sEagerAlloc [aR m.cs,aR h.cs,aI sz,aI al,aB fr]=(entK ok_sModel ea_sModel (f_sModel) [(wMl m)] fun (r1:Ml)=>gl r1.2.length<|gl r1.3.length<|bif decide (1≤sz) then bif !decide (sz≤200) then gl r1.2.length<|gl r1.3.length<|gl r1.2.length<|gl r1.3.length<|some ([(oR (Ml.cs r1)),(false,[.tr true (T.int i64 1)])],[(false,[]),(false,[]),(false,[]),(false,[]),(false,[])]) else entK ok_sAlg ea_sAlg (f_sAlg) [(0,false,[C.tr false (T.int i64 al)])] fun (r2:Bool)=>bif !r2 then gl r1.2.length<|gl r1.3.length<|gl r1.2.length<|gl r1.3.length<|some ([(oR (Ml.cs r1)),(false,[.tr true (T.int i64 1)])],[(false,[]),(false,[]),(false,[]),(false,[]),(false,[])]) else entK ok_sRsv ea_sRsv (f_sRsv) [(wMl m),(wHd h)] fun (r3:Int × Int)=>let q0:=atL Rm.cs r1.2 (0+r3.1.toNat) 6;bif r3.2 == 0 then gd (decide (0≤r3.1)&&(r3.1.toNat.blt m.2.length&&true))<|gd ((atL Rm.cs m.2 r3.1.toNat 9).isArr&&(atL Rm.cs m.2 r3.1.toNat 9).wd.beq 1)<|bif decide (12≤(↑(atL Rm.cs m.2 r3.1.toNat 9).ln:Int)) then gl r1.2.length<|gl r1.3.length<|gl r1.2.length<|gl r1.3.length<|some ([(oR (Ml.cs r1)),(false,[.tr true (T.int i64 8)])],[(false,[]),(false,[]),(false,[]),(false,[]),(false,[])]) else bif r3.2 != 0 then gl r1.2.length<|gl r1.3.length<|gl r1.2.length<|gl r1.3.length<|some ([(oR (Ml.cs r1)),(false,[.tr true (T.int i64 r3.2)])],[(false,[]),(false,[]),(false,[]),(false,[]),(false,[])]) else bif !decide (m.c.2 < sz) then entK ok_sSml ea_sSml (f_sSml) [(2,true,[C.tr true (T.int i64 r1.c.1),C.tr true (T.int i64 r1.c.2),C.tr true (T.int i64 r1.c.3),C.tr true (T.int i64 r1.c.4),C.tr true (T.int i64 r1.c.5),C.tr true (T.int i64 r1.c.6),C.tr true (T.arr 11 r1.2.length (eL 11 Rm.cs r1.2).fn),C.tr true (T.arr 1 r1.3.length (eL 1 rowI r1.3).fn)]),(0,false,[C.tr false (T.int i64 r3.1)]),(0,false,[C.tr false (T.int i64 sz)]),(0,false,[C.tr false (T.int i64 al)])] fun (r4:Ml × Int)=>let q1:=atL Rm.cs r4.fst.2 (0+r3.1.toNat) (9+0);bif r4.2 != 0 then entK ok_sModel ea_sModel (f_sModel) [(wMl m)] fun (r5:Ml)=>gl r5.2.length<|gl r5.3.length<|gl r5.2.length<|gl r5.3.length<|some ([(oR (Ml.cs r5)),(false,[.tr true (T.int i64 r4.2)])],[(false,[]),(false,[]),(false,[]),(false,[]),(false,[])]) else gd (decide (0≤r3.1)&&(r3.1.toNat.blt r4.fst.2.length&&true))<|gd ((0+r3.1.toNat).blt r4.fst.2.length&&true&&(q1.isArr&&q1.wd.beq 1))<|entK ok_sZeros ea_sZeros (f_sZeros) [(0,false,[C.tr false (T.int i64 sz)])] fun (r6:List UInt8)=>gl r6.length<|gl r6.length<|gd ((0+r3.1.toNat).blt r4.fst.2.length&&true&&true&&((eL 11 Rm.cs r4.fst.2).get [0+r3.1.toNat,9+0]).isArr)<|gd (q1.ln.ble ((eL 11 Rm.cs r4.fst.2).get [0+r3.1.toNat,9+0]).ln&&Nat.beq 1 ((eL 11 Rm.cs r4.fst.2).get [0+r3.1.toNat,9+0]).wd)<|gd (((q1.ln+1) * 24).ble 70368744177664&&(q1.ln+1).ble 70368744177664)<|gd (decide (0≤r3.1)&&(r3.1.toNat.blt r4.fst.2.length&&true))<|gd ((q1.ln+1).ble (q1.ln+1)&&true)<|gd ((0+r3.1.toNat).blt r4.fst.2.length&&true&&true)<|gl r4.fst.2.length<|gl r4.fst.3.length<|gl r4.fst.2.length<|gl r4.fst.3.length<|some ([(true,[.tr true (T.int i64 r4.fst.c.1),.tr true (T.int i64 r4.fst.c.2),.tr true (T.int i64 r4.fst.c.3),.tr true (T.int i64 r4.fst.c.4),.tr true (T.int i64 r4.fst.c.5),.tr true (T.int i64 r4.fst.c.6),.tr true (.arr (11) (r4.fst.2.length) (setF (0+r3.1.toNat) 9 (T.arr 1 ((atL Rm.cs r4.fst.2 (0+r3.1.toNat) 9).ln+1) (appF (atL Rm.cs r4.fst.2 (0+r3.1.toNat) 9).ln ((eL 11 Rm.cs r4.fst.2).get [0+r3.1.toNat,9]).fn (rowsT [[T.arr 1 r6.length (atL rowB r6)]]))) (setF (0+r3.1.toNat) 9 T.hole (atL Rm.cs r4.fst.2)))),.tr true (.arr (1) (r4.fst.3.length) ((eL 1 rowI r4.fst.3).fn))]),(false,[.tr true (T.int i64 0)])],[(false,[]),(false,[]),(false,[]),(false,[]),(false,[])]) else entK ok_sCeilDiv ea_sCeilDiv (f_sCeilDiv) [(0,false,[C.tr false (T.int i64 sz)]),(0,false,[C.tr false (T.int i64 m.c.2)])] fun (r7:Int)=>let q3:=setF (0+r3.1.toNat) 6 (T.int i64 (i64.wrap (q0.toI+r7))) (eL 11 Rm.cs r1.2).fn;let q5:=setF (0+r3.1.toNat) 6 (T.int i64 (i64.wrap (q0.toI+r7))) (eL 11 Rm.cs r1.2).fn (0+r3.1.toNat) 9;let q7:=setF (0+r3.1.toNat) 6 (T.int i64 (i64.wrap (q0.toI+r7))) (eL 11 Rm.cs r1.2).fn (0+r3.1.toNat) (9+0);entK ok_sTakenBy ea_sTakenBy (f_sTakenBy) [(wMl m)] fun (r8:Int)=>bif decide (m.c.1 < i64.wrap (r8+r7)) then entK ok_sModel ea_sModel (f_sModel) [(wMl m)] fun (r9:Ml)=>gl r9.2.length<|gl r9.3.length<|gl r9.2.length<|gl r9.3.length<|some ([(oR (Ml.cs r9)),(false,[.tr true (T.int i64 5)])],[(false,[]),(false,[]),(false,[]),(false,[]),(false,[])]) else bif fr then entK ok_sModel ea_sModel (f_sModel) [(wMl m)] fun (r10:Ml)=>gl r10.2.length<|gl r10.3.length<|gl r10.2.length<|gl r10.3.length<|some ([(oR (Ml.cs r10)),(false,[.tr true (T.int i64 6)])],[(false,[]),(false,[]),(false,[]),(false,[]),(false,[])]) else gd (decide (0≤r3.1)&&(r3.1.toNat.blt r1.2.length&&true))<|gd ((0+r3.1.toNat).blt r1.2.length&&true&&T.isI i64 (atL Rm.cs r1.2 (0+r3.1.toNat) (6+0)))<|gd (decide (0≤r3.1)&&(r3.1.toNat.blt r1.2.length&&true))<|gd ((0+r3.1.toNat).blt r1.2.length&&true&&true)<|bif r3.2 != 0 then entK ok_sModel ea_sModel (f_sModel) [(wMl m)] fun (r11:Ml)=>gl r11.2.length<|gl r11.3.length<|gl r11.2.length<|gl r11.3.length<|some ([(oR (Ml.cs r11)),(false,[.tr true (T.int i64 r3.2)])],[(false,[]),(false,[]),(false,[]),(false,[]),(false,[])]) else gd (decide (0≤r3.1)&&(r3.1.toNat.blt r1.2.length&&true))<|gd ((0+r3.1.toNat).blt r1.2.length&&true&&(q7.isArr&&q7.wd.beq 1))<|entK ok_sZeros ea_sZeros (f_sZeros) [(0,false,[C.tr false (T.int i64 sz)])] fun (r12:List UInt8)=>gl r12.length<|gl r12.length<|gd ((0+r3.1.toNat).blt r1.2.length&&true&&true&&((T.arr 11 r1.2.length q3).get [0+r3.1.toNat,9+0]).isArr)<|gd (q7.ln.ble ((T.arr 11 r1.2.length q3).get [0+r3.1.toNat,9+0]).ln&&Nat.beq 1 ((T.arr 11 r1.2.length q3).get [0+r3.1.toNat,9+0]).wd)<|gd (((q7.ln+1) * 24).ble 70368744177664&&(q7.ln+1).ble 70368744177664)<|gd (decide (0≤r3.1)&&(r3.1.toNat.blt r1.2.length&&true))<|gd ((q7.ln+1).ble (q7.ln+1)&&true)<|gd ((0+r3.1.toNat).blt r1.2.length&&true&&true)<|gl r1.2.length<|gl r1.3.length<|gl r1.2.length<|gl r1.3.length<|some ([(true,[.tr true (T.int i64 r1.c.1),.tr true (T.int i64 r1.c.2),.tr true (T.int i64 r1.c.3),.tr true (T.int i64 r1.c.4),.tr true (T.int i64 r1.c.5),.tr true (T.int i64 r1.c.6),.tr true (.arr (11) (r1.2.length) (setF (0+r3.1.toNat) 9 (T.arr 1 (q5.ln+1) (appF q5.ln ((T.arr 11 r1.2.length q3).get [0+r3.1.toNat,9]).fn (rowsT [[T.arr 1 r12.length (atL rowB r12)]]))) (setF (0+r3.1.toNat) 9 T.hole q3))),.tr true (.arr (1) (r1.3.length) ((eL 1 rowI r1.3).fn))]),(false,[.tr true (T.int i64 0)])],[(false,[]),(false,[]),(false,[]),(false,[]),(false,[])]) else bif r3.2 != 0 then gl r1.2.length<|gl r1.3.length<|gl r1.2.length<|gl r1.3.length<|some ([(oR (Ml.cs r1)),(false,[.tr true (T.int i64 r3.2)])],[(false,[]),(false,[]),(false,[]),(false,[]),(false,[])]) else bif !decide (m.c.2 < sz) then entK ok_sSml ea_sSml (f_sSml) [(2,true,[C.tr true (T.int i64 r1.c.1),C.tr true (T.int i64 r1.c.2),C.tr true (T.int i64 r1.c.3),C.tr true (T.int i64 r1.c.4),C.tr true (T.int i64 r1.c.5),C.tr true (T.int i64 r1.c.6),C.tr true (T.arr 11 r1.2.length (eL 11 Rm.cs r1.2).fn),C.tr true (T.arr 1 r1.3.length (eL 1 rowI r1.3).fn)]),(0,false,[C.tr false (T.int i64 r3.1)]),(0,false,[C.tr false (T.int i64 sz)]),(0,false,[C.tr false (T.int i64 al)])] fun (r13:Ml × Int)=>let q2:=atL Rm.cs r13.fst.2 (0+r3.1.toNat) (9+0);bif r13.2 != 0 then entK ok_sModel ea_sModel (f_sModel) [(wMl m)] fun (r14:Ml)=>gl r14.2.length<|gl r14.3.length<|gl r14.2.length<|gl r14.3.length<|some ([(oR (Ml.cs r14)),(false,[.tr true (T.int i64 r13.2)])],[(false,[]),(false,[]),(false,[]),(false,[]),(false,[])]) else gd (decide (0≤r3.1)&&(r3.1.toNat.blt r13.fst.2.length&&true))<|gd ((0+r3.1.toNat).blt r13.fst.2.length&&true&&(q2.isArr&&q2.wd.beq 1))<|entK ok_sZeros ea_sZeros (f_sZeros) [(0,false,[C.tr false (T.int i64 sz)])] fun (r15:List UInt8)=>gl r15.length<|gl r15.length<|gd ((0+r3.1.toNat).blt r13.fst.2.length&&true&&true&&((eL 11 Rm.cs r13.fst.2).get [0+r3.1.toNat,9+0]).isArr)<|gd (q2.ln.ble ((eL 11 Rm.cs r13.fst.2).get [0+r3.1.toNat,9+0]).ln&&Nat.beq 1 ((eL 11 Rm.cs r13.fst.2).get [0+r3.1.toNat,9+0]).wd)<|gd (((q2.ln+1) * 24).ble 70368744177664&&(q2.ln+1).ble 70368744177664)<|gd (decide (0≤r3.1)&&(r3.1.toNat.blt r13.fst.2.length&&true))<|gd ((q2.ln+1).ble (q2.ln+1)&&true)<|gd ((0+r3.1.toNat).blt r13.fst.2.length&&true&&true)<|gl r13.fst.2.length<|gl r13.fst.3.length<|gl r13.fst.2.length<|gl r13.fst.3.length<|some ([(true,[.tr true (T.int i64 r13.fst.c.1),.tr true (T.int i64 r13.fst.c.2),.tr true (T.int i64 r13.fst.c.3),.tr true (T.int i64 r13.fst.c.4),.tr true (T.int i64 r13.fst.c.5),.tr true (T.int i64 r13.fst.c.6),.tr true (.arr (11) (r13.fst.2.length) (setF (0+r3.1.toNat) 9 (T.arr 1 ((atL Rm.cs r13.fst.2 (0+r3.1.toNat) 9).ln+1) (appF (atL Rm.cs r13.fst.2 (0+r3.1.toNat) 9).ln ((eL 11 Rm.cs r13.fst.2).get [0+r3.1.toNat,9]).fn (rowsT [[T.arr 1 r15.length (atL rowB r15)]]))) (setF (0+r3.1.toNat) 9 T.hole (atL Rm.cs r13.fst.2)))),.tr true (.arr (1) (r13.fst.3.length) ((eL 1 rowI r13.fst.3).fn))]),(false,[.tr true (T.int i64 0)])],[(false,[]),(false,[]),(false,[]),(false,[]),(false,[])]) else entK ok_sCeilDiv ea_sCeilDiv (f_sCeilDiv) [(0,false,[C.tr false (T.int i64 sz)]),(0,false,[C.tr false (T.int i64 m.c.2)])] fun (r16:Int)=>let q4:=setF (0+r3.1.toNat) 6 (T.int i64 (i64.wrap (q0.toI+r16))) (eL 11 Rm.cs r1.2).fn;let q6:=setF (0+r3.1.toNat) 6 (T.int i64 (i64.wrap (q0.toI+r16))) (eL 11 Rm.cs r1.2).fn (0+r3.1.toNat) 9;let q8:=setF (0+r3.1.toNat) 6 (T.int i64 (i64.wrap (q0.toI+r16))) (eL 11 Rm.cs r1.2).fn (0+r3.1.toNat) (9+0);entK ok_sTakenBy ea_sTakenBy (f_sTakenBy) [(wMl m)] fun (r17:Int)=>bif decide (m.c.1 < i64.wrap (r17+r16)) then entK ok_sModel ea_sModel (f_sModel) [(wMl m)] fun (r18:Ml)=>gl r18.2.length<|gl r18.3.length<|gl r18.2.length<|gl r18.3.length<|some ([(oR (Ml.cs r18)),(false,[.tr true (T.int i64 5)])],[(false,[]),(false,[]),(false,[]),(false,[]),(false,[])]) else bif fr then entK ok_sModel ea_sModel (f_sModel) [(wMl m)] fun (r19:Ml)=>gl r19.2.length<|gl r19.3.length<|gl r19.2.length<|gl r19.3.length<|some ([(oR (Ml.cs r19)),(false,[.tr true (T.int i64 6)])],[(false,[]),(false,[]),(false,[]),(false,[]),(false,[])]) else gd (decide (0≤r3.1)&&(r3.1.toNat.blt r1.2.length&&true))<|gd ((0+r3.1.toNat).blt r1.2.length&&true&&T.isI i64 (atL Rm.cs r1.2 (0+r3.1.toNat) (6+0)))<|gd (decide (0≤r3.1)&&(r3.1.toNat.blt r1.2.length&&true))<|gd ((0+r3.1.toNat).blt r1.2.length&&true&&true)<|bif r3.2 != 0 then entK ok_sModel ea_sModel (f_sModel) [(wMl m)] fun (r20:Ml)=>gl r20.2.length<|gl r20.3.length<|gl r20.2.length<|gl r20.3.length<|some ([(oR (Ml.cs r20)),(false,[.tr true (T.int i64 r3.2)])],[(false,[]),(false,[]),(false,[]),(false,[]),(false,[])]) else gd (decide (0≤r3.1)&&(r3.1.toNat.blt r1.2.length&&true))<|gd ((0+r3.1.toNat).blt r1.2.length&&true&&(q8.isArr&&q8.wd.beq 1))<|entK ok_sZeros ea_sZeros (f_sZeros) [(0,false,[C.tr false (T.int i64 sz)])] fun (r21:List UInt8)=>gl r21.length<|gl r21.length<|gd ((0+r3.1.toNat).blt r1.2.length&&true&&true&&((T.arr 11 r1.2.length q4).get [0+r3.1.toNat,9+0]).isArr)<|gd (q8.ln.ble ((T.arr 11 r1.2.length q4).get [0+r3.1.toNat,9+0]).ln&&Nat.beq 1 ((T.arr 11 r1.2.length q4).get [0+r3.1.toNat,9+0]).wd)<|gd (((q8.ln+1) * 24).ble 70368744177664&&(q8.ln+1).ble 70368744177664)<|gd (decide (0≤r3.1)&&(r3.1.toNat.blt r1.2.length&&true))<|gd ((q8.ln+1).ble (q8.ln+1)&&true)<|gd ((0+r3.1.toNat).blt r1.2.length&&true&&true)<|gl r1.2.length<|gl r1.3.length<|gl r1.2.length<|gl r1.3.length<|some ([(true,[.tr true (T.int i64 r1.c.1),.tr true (T.int i64 r1.c.2),.tr true (T.int i64 r1.c.3),.tr true (T.int i64 r1.c.4),.tr true (T.int i64 r1.c.5),.tr true (T.int i64 r1.c.6),.tr true (.arr (11) (r1.2.length) (setF (0+r3.1.toNat) 9 (T.arr 1 (q6.ln+1) (appF q6.ln ((T.arr 11 r1.2.length q4).get [0+r3.1.toNat,9]).fn (rowsT [[T.arr 1 r21.length (atL rowB r21)]]))) (setF (0+r3.1.toNat) 9 T.hole q4))),.tr true (.arr (1) (r1.3.length) ((eL 1 rowI r1.3).fn))]),(false,[.tr true (T.int i64 0)])],[(false,[]),(false,[]),(false,[]),(false,[]),(false,[])]) else gl r1.2.length<|gl r1.3.length<|gl r1.2.length<|gl r1.3.length<|some ([(oR (Ml.cs r1)),(false,[.tr true (T.int i64 1)])],[(false,[]),(false,[]),(false,[]),(false,[]),(false,[])])):=by kernel_rfl
end Go.Mach.F
