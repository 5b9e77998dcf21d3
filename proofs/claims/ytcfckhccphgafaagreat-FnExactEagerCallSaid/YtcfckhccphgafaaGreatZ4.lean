/- Lemmas and definitions of the proof (Fm Mr Ro Ga Ha Hk Rx Ry Rz Ca Cc Bm Bi Ia). Conditions: none. -/
import Derived.WalkKit
import Derived.ProofKit
import Derived.OpenShut
import Derived.ShutString
import Derived.ChangeOld
import Derived.Below
import Derived.SizedLaws
import Derived.Lib.Overlaps
import Derived.Lib.AppendZerosOnto
import Derived.Shelf.RegionOpenPlain
import Derived.Test.YtcfckhccphgafaaGreatProg
import Derived.Test.YtcfckhccphgafaaGreatZ3
set_option linter.all false
namespace Go.Mach.F
open Go Go.Mach Go.Proofs.Tryz Go.IntKind
--=set_option maxRecDepth 100000
theorem int_eqM (a b:Int):(a == b)=decide (a=b):=by by_cases h:a=b <;> simp [h]
def m1_RmS (x:Rm) (k:Int):Rm:=⟨⟨(k),(k+1)⟩,⟨(k+1+1),(k+1+1+1)⟩,(mk_HdS x.kids (k+1+1+1+1)),(k+1+1+1+1+cntL c1_HdS x.kids),(k+1+1+1+1+cntL c1_HdS x.kids+1),(decide (Int.tmod (k+1+1+1+1+cntL c1_HdS x.kids+1+1) 3=0)),(k+1+1+1+1+cntL c1_HdS x.kids+1+1+1),(mk_SfS x.things (k+1+1+1+1+cntL c1_HdS x.kids+1+1+1+1)),(mk_LI x.tags (k+1+1+1+1+cntL c1_HdS x.kids+1+1+1+1+cntL c1_SfS x.things))⟩
def c1_RmS (x:Rm):Nat:=1+1+1+1+cntL c1_HdS x.kids+1+1+1+1+cntL c1_SfS x.things+cntL c1_LI x.tags
def okh_RmS (x:List Rm × Int):Prop:=okq_RmS x.1∧0≤x.2∧x.2+cntL c1_RmS x.1≤BM
def eah_RmS (x:List Rm × Int):List Arg:=[aT (eL 11 Rm.cs x.1),aI x.2]
def eam_RmS (x:List Rm × Int):List Arg:=[lT (eL 11 Rm.cs x.1),aI x.2]
def mk_RmS (l:List Rm) (k:Int):List Rm:=markL m1_RmS c1_RmS l k
def f_hdRmS (x:List Rm × Int):Int:=if x.1=mk_RmS x.1 x.2 then x.2+cntL c1_RmS x.1 else -1
def f_mkRmS (x:List Rm × Int):List Rm:=mk_RmS x.1 x.2
def f_ctRmS (x:List Rm × Int):Int:=x.2+cntL c1_RmS x.1
noncomputable def e_hdRmS:Ent:=ent [] okh_RmS eah_RmS (erI 2) f_hdRmS
noncomputable def e_mkRmS:Ent:=ent [1] okh_RmS eam_RmS (fun x=>([oT (.int .i64 (f_ctRmS x))],[oT (eL 11 Rm.cs (f_mkRmS x)),nul])) fun x=>x
theorem eah_RmS_inj (x y:List Rm × Int) (h:eah_RmS x=eah_RmS y):x=y:=by
 simp only [eah_RmS,aI,aT,List.cons.injEq,Prod.mk.injEq,true_and,and_true,C.tr.injEq,T.int.injEq] at h
 exact Prod.ext (eL_inj Rm.cs_inj h.1) h.2
theorem eam_RmS_inj (x y:List Rm × Int) (h:eam_RmS x=eam_RmS y):x=y:=by
 simp only [eam_RmS,lT,aI,aT,List.cons.injEq,Prod.mk.injEq,true_and,and_true,C.tr.injEq,T.int.injEq] at h
 exact Prod.ext (eL_inj Rm.cs_inj h.1) h.2
def i_hdRmS:Nat:=75
noncomputable abbrev F_hdRmS:Func:=f75
def kp_hdRmS:List (Nat × List Nat):=[(0,[0,4]),(1,[0,4,20]),(2,[0,4,20,36]),(3,[0,4,20]),(4,[0,4,20,76]),(5,[16]),(6,[0,4,20]),(7,[0,4,20,116]),(8,[16]),(9,[0,4,20]),(10,[0,4,20,156]),(11,[16]),(12,[0,4,20]),(13,[0,4,20,196]),(14,[16]),(15,[0,4,20]),(16,[0,4,20]),(17,[0,4,20,240]),(18,[16]),(19,[0,4,20,268]),(20,[16]),(21,[0,4,20]),(22,[0,4,20,304]),(23,[16]),(24,[0,4,20]),(25,[0,4,20,348]),(26,[16]),(27,[0,4,20]),(28,[0,4,20,384]),(29,[16]),(30,[0,4,20]),(31,[0,4,20]),(32,[0,4,20,428]),(33,[16]),(34,[0,4,20]),(35,[0,4,20,464]),(36,[16]),(37,[16])]
def ts_hdRmS:List Nat:=[0,0]
def st_hdRmS_1 (l:List Rm) (k:Int) (x4:Int) (x20:Int):St:=[(0,⟨z0,[(false,[.tr false (eL 11 Rm.cs l)])]⟩),(4,⟨z0,[(false,[.tr true (T.int i64 x4)])]⟩),(20,⟨z0,[(false,[.tr true (T.int i64 x20)])]⟩)]
def ex_hdRmS_1_1 (l:List Rm) (k:Int) (x4:Int) (x20:Int):St:=[(16,⟨z0,[(false,[.tr true (T.int i64 (-1))])]⟩)]
def ex_hdRmS_1_2 (l:List Rm) (k:Int) (x4:Int) (x20:Int):St:=[(0,⟨z0,[(false,[.tr false (eL 11 Rm.cs l)])]⟩),(4,⟨z0,[(false,[.tr true (T.int i64 x4)])]⟩),(20,⟨z0,[(false,[.tr true (T.int i64 x20)])]⟩),(36,⟨z0,[]⟩)]
noncomputable abbrev tb1:Sems:=tabS [(i_hdHdS,e_hdHdS),(i_hdSfS,e_hdSfS),(i_hdLI,e_hdLI)]
theorem round_hdRmS_1 (l:List Rm) (k:Int) (x4:Int) (x20:Int) (n:Nat) (K:Ex→St→Res):roundAt prog tb1 kp_hdRmS F_hdRmS [1,0,1,0] n (st_hdRmS_1 l k x4 x20) K=(bif decide (x20 < (↑l.length:Int)) then gd (decide (0≤x20)&&(x20.toNat.blt l.length&&true))<|gd (T.isI i64 (atL Rm.cs l x20.toNat (0+0)))<|bif (atL Rm.cs l x20.toNat (0+0)).toI != x4 then K .ret (ex_hdRmS_1_1 l k x4 x20) else gd (decide (0≤x20)&&(x20.toNat.blt l.length&&true))<|gd (T.isI i64 (atL Rm.cs l x20.toNat (0+1)))<|bif (atL Rm.cs l x20.toNat (0+1)).toI != i64.wrap (x4+1) then K .ret (ex_hdRmS_1_1 l k x4 x20) else gd (decide (0≤x20)&&(x20.toNat.blt l.length&&true))<|gd (T.isI i64 (atL Rm.cs l x20.toNat (2+0)))<|bif (atL Rm.cs l x20.toNat (2+0)).toI != i64.wrap (i64.wrap (x4+1)+1) then K .ret (ex_hdRmS_1_1 l k x4 x20) else gd (decide (0≤x20)&&(x20.toNat.blt l.length&&true))<|gd (T.isI i64 (atL Rm.cs l x20.toNat (2+1)))<|bif (atL Rm.cs l x20.toNat (2+1)).toI != i64.wrap (i64.wrap (i64.wrap (x4+1)+1)+1) then K .ret (ex_hdRmS_1_1 l k x4 x20) else gd (decide (0≤x20)&&(x20.toNat.blt l.length&&true))<|gd ((atL Rm.cs l x20.toNat 4).isArr&&(atL Rm.cs l x20.toNat 4).wd.beq 2)<|entK okh_HdS eah_HdS (f_hdHdS) [(0,false,[C.tr false (T.arr 2 (atL Rm.cs l x20.toNat 4).ln (atL Rm.cs l x20.toNat 4).fn)]),(0,false,[C.tr false (T.int i64 (i64.wrap (i64.wrap (i64.wrap (i64.wrap (x4+1)+1)+1)+1)))])] fun (r1:Int)=>bif decide (r1 < 0) then K .ret (ex_hdRmS_1_1 l k x4 x20) else gd (decide (0≤x20)&&(x20.toNat.blt l.length&&true))<|gd (T.isI i64 (atL Rm.cs l x20.toNat 5))<|bif (atL Rm.cs l x20.toNat 5).toI != r1 then K .ret (ex_hdRmS_1_1 l k x4 x20) else gd (decide (0≤x20)&&(x20.toNat.blt l.length&&true))<|gd (T.isI i64 (atL Rm.cs l x20.toNat 6))<|bif (atL Rm.cs l x20.toNat 6).toI != i64.wrap (r1+1) then K .ret (ex_hdRmS_1_1 l k x4 x20) else gd (decide (0≤x20)&&(x20.toNat.blt l.length&&true))<|gd ((atL Rm.cs l x20.toNat 7).isB)<|bif !(atL Rm.cs l x20.toNat 7).toB == ((i64.wrap (i64.wrap (r1+1)+1)).tmod 3 == 0) then K .ret (ex_hdRmS_1_1 l k x4 x20) else gd (decide (0≤x20)&&(x20.toNat.blt l.length&&true))<|gd (T.isI i64 (atL Rm.cs l x20.toNat 8))<|bif (atL Rm.cs l x20.toNat 8).toI != i64.wrap (i64.wrap (i64.wrap (r1+1)+1)+1) then K .ret (ex_hdRmS_1_1 l k x4 x20) else gd (decide (0≤x20)&&(x20.toNat.blt l.length&&true))<|gd ((atL Rm.cs l x20.toNat 9).isArr&&(atL Rm.cs l x20.toNat 9).wd.beq 1)<|entK okh_SfS eah_SfS (f_hdSfS) [(0,false,[C.tr false (T.arr 1 (atL Rm.cs l x20.toNat 9).ln (atL Rm.cs l x20.toNat 9).fn)]),(0,false,[C.tr false (T.int i64 (i64.wrap (i64.wrap (i64.wrap (i64.wrap (r1+1)+1)+1)+1)))])] fun (r2:Int)=>bif decide (r2 < 0) then K .ret (ex_hdRmS_1_1 l k x4 x20) else gd (decide (0≤x20)&&(x20.toNat.blt l.length&&true))<|gd ((atL Rm.cs l x20.toNat 10).isArr&&(atL Rm.cs l x20.toNat 10).wd.beq 1)<|entK okh_LI eah_LI (f_hdLI) [(0,false,[C.tr false (T.arr 1 (atL Rm.cs l x20.toNat 10).ln (atL Rm.cs l x20.toNat 10).fn)]),(0,false,[C.tr false (T.int i64 r2)])] fun (r3:Int)=>bif decide (r3 < 0) then K .ret (ex_hdRmS_1_1 l k x4 x20) else K .normal (st_hdRmS_1 l k r3 (i64.wrap (x20+1))) else K (.exit 0) (ex_hdRmS_1_2 l k x4 x20)):=by kernel_rfl
theorem post_hdRmS_1_1 (l:List Rm) (k:Int) (x4:Int) (x20:Int) (n:Nat):contAt prog tb1 kp_hdRmS F_hdRmS ts_hdRmS [1,0,1,0] [] n .ret (ex_hdRmS_1_1 l k x4 x20)=(some ([(false,[.tr true (T.int i64 (-1))])],[(false,[]),(false,[])])):=by kernel_rfl
theorem post_hdRmS_1_2 (l:List Rm) (k:Int) (x4:Int) (x20:Int) (n:Nat):contAt prog tb1 kp_hdRmS F_hdRmS ts_hdRmS [1,0,1,0] [] n (.exit 0) (ex_hdRmS_1_2 l k x4 x20)=(some ([(false,[.tr true (T.int i64 x4)])],[(false,[]),(false,[])])):=by kernel_rfl
theorem pre_hdRmS (l:List Rm) (k:Int) (n:Nat):body prog tb1 kp_hdRmS n F_hdRmS [aT (eL 11 Rm.cs l),aI k]=(loopAt prog tb1 kp_hdRmS F_hdRmS [1,0,1,0] n n (st_hdRmS_1 l k (k) (0)) (contAt prog tb1 kp_hdRmS F_hdRmS ts_hdRmS [1,0,1,0] [] n)):=by kernel_rfl
theorem body_hdRmS (l:List Rm) (k:Int) (h:okh_RmS (l,k)):body prog tb1 kp_hdRmS (l.length+1) F_hdRmS (eah_RmS (l,k))=some (erI 2 (f_hdRmS (l,k))):=by
 obtain ⟨hl,hk0,hk1⟩:=h
 have hbm:=bm
 dsimp only at hl hk0 hk1
 have hl':l.length≤BM:=hl.1
 unfold eah_RmS f_hdRmS
 dsimp only
 rw [pre_hdRmS]
 have hst:st_hdRmS_1 l k k 0=(fun i:Nat=>st_hdRmS_1 l k (k+cntL c1_RmS (l.take i)) (i:Nat)) 0:=by simp [cntL]
 rw [hst,heldS m1_RmS c1_RmS l k (fun i:Nat=>st_hdRmS_1 l k (k+cntL c1_RmS (l.take i)) (i:Nat)) (fun i:Nat=>ex_hdRmS_1_1 l k (k+cntL c1_RmS (l.take i)) (i:Nat)) (ex_hdRmS_1_2 l k (k+cntL c1_RmS l) l.length) (fun i x K hx=>?_) (fun K=>?_) (fun i=>post_hdRmS_1_1 l k _ _ _) (post_hdRmS_1_2 l k _ _ _) _ (Nat.le_refl _)]
 ·unfold mk_RmS
  split <;> rfl
 ·have hi:=(List.getElem?_eq_some_iff.1 hx).1
  have hxm:x∈l:=List.mem_of_getElem? hx
  have hc:=cntL_take c1_RmS l hx
  have hcl:=cntL_le c1_RmS l (i+1)
  have hcx:c1_RmS x=1+1+1+1+cntL c1_HdS x.kids+1+1+1+1+cntL c1_SfS x.things+cntL c1_LI x.tags:=rfl
  have h0:=(hl.2 _ hxm).1
  have h1:=(hl.2 _ hxm).2.1
  have h2:=(hl.2 _ hxm).2.2
  rw [hc,round_hdRmS_1]
  obtain ⟨k0,hk⟩:∃ k0,k0=k+(cntL c1_RmS (l.take i):Int):=⟨_,rfl⟩
  have hk2:k+((cntL c1_RmS (l.take i)+c1_RmS x:Nat):Int)=k0+1+1+1+1+cntL c1_HdS x.kids+1+1+1+1+cntL c1_SfS x.things+cntL c1_LI x.tags:=by omega
  rw [hk2,← hk]
  have g0:okh_HdS (x.kids,k0+1+1+1+1):=⟨h0,by dsimp only;omega,by dsimp only;omega⟩
  have g1:okh_SfS (x.things,k0+1+1+1+1+cntL c1_HdS x.kids+1+1+1+1):=⟨h1,by dsimp only;omega,by dsimp only;omega⟩
  have g2:okh_LI (x.tags,k0+1+1+1+1+cntL c1_HdS x.kids+1+1+1+1+cntL c1_SfS x.things):=⟨h2,by dsimp only;omega,by dsimp only;omega⟩
  simp (disch:=omega) only [rsx0,hi,atL_of hx,Rm.cs,int_ne,bool_ne,int_eqM,bool_eq,wrapI,wrapS]
  by_cases e0:x.h.slot=k0
  case neg =>
   rw [decide_eq_false e0,decide_eq_false (show ¬ x=m1_RmS x k0 from fun e=>e0 (congrArg (fun z:Rm=>z.h.slot) e))]
   rfl
  rw [decide_eq_true e0]
  simp (disch:=omega) only [Bool.not_true,cond_false,wrapI]
  by_cases e1:x.h.gen=k0+1
  case neg =>
   rw [decide_eq_false e1,decide_eq_false (show ¬ x=m1_RmS x k0 from fun e=>e1 (congrArg (fun z:Rm=>z.h.gen) e))]
   rfl
  rw [decide_eq_true e1]
  simp (disch:=omega) only [Bool.not_true,cond_false,wrapI]
  by_cases e2:x.up.slot=k0+1+1
  case neg =>
   rw [decide_eq_false e2,decide_eq_false (show ¬ x=m1_RmS x k0 from fun e=>e2 (congrArg (fun z:Rm=>z.up.slot) e))]
   rfl
  rw [decide_eq_true e2]
  simp (disch:=omega) only [Bool.not_true,cond_false,wrapI]
  by_cases e3:x.up.gen=k0+1+1+1
  case neg =>
   rw [decide_eq_false e3,decide_eq_false (show ¬ x=m1_RmS x k0 from fun e=>e3 (congrArg (fun z:Rm=>z.up.gen) e))]
   rfl
  rw [decide_eq_true e3]
  simp (disch:=omega) only [Bool.not_true,cond_false,wrapI]
  simp only [entK_of (dm_hdHdS g0) (iv_hdHdS g0),gdt]
  by_cases e4:x.kids=mk_HdS x.kids (k0+1+1+1+1)
  case neg =>
   simp only [n_hdHdS e4]
   rw [decide_eq_false (show ¬ x=m1_RmS x k0 from fun e=>e4 (congrArg (fun z:Rm=>z.kids) e))]
   rfl
  simp only [y_hdHdS e4]
  rw [decide_eq_false (show ¬ k0+1+1+1+1+(cntL c1_HdS x.kids:Int) < 0 by omega)]
  simp (disch:=omega) only [cond_false,wrapI]
  by_cases e5:x.ep=k0+1+1+1+1+cntL c1_HdS x.kids
  case neg =>
   rw [decide_eq_false e5,decide_eq_false (show ¬ x=m1_RmS x k0 from fun e=>e5 (congrArg (fun z:Rm=>z.ep) e))]
   rfl
  rw [decide_eq_true e5]
  simp (disch:=omega) only [Bool.not_true,cond_false,wrapI]
  by_cases e6:x.chunks=k0+1+1+1+1+cntL c1_HdS x.kids+1
  case neg =>
   rw [decide_eq_false e6,decide_eq_false (show ¬ x=m1_RmS x k0 from fun e=>e6 (congrArg (fun z:Rm=>z.chunks) e))]
   rfl
  rw [decide_eq_true e6]
  simp (disch:=omega) only [Bool.not_true,cond_false,wrapI]
  by_cases e7:x.cur=decide (Int.tmod (k0+1+1+1+1+cntL c1_HdS x.kids+1+1) 3=0)
  case neg =>
   rw [decide_eq_false e7,decide_eq_false (show ¬ x=m1_RmS x k0 from fun e=>e7 (congrArg (fun z:Rm=>z.cur) e))]
   rfl
  rw [decide_eq_true e7]
  simp (disch:=omega) only [Bool.not_true,cond_false,wrapI]
  by_cases e8:x.bump=k0+1+1+1+1+cntL c1_HdS x.kids+1+1+1
  case neg =>
   rw [decide_eq_false e8,decide_eq_false (show ¬ x=m1_RmS x k0 from fun e=>e8 (congrArg (fun z:Rm=>z.bump) e))]
   rfl
  rw [decide_eq_true e8]
  simp (disch:=omega) only [Bool.not_true,cond_false,wrapI]
  simp only [entK_of (dm_hdSfS g1) (iv_hdSfS g1),gdt]
  by_cases e9:x.things=mk_SfS x.things (k0+1+1+1+1+cntL c1_HdS x.kids+1+1+1+1)
  case neg =>
   simp only [n_hdSfS e9]
   rw [decide_eq_false (show ¬ x=m1_RmS x k0 from fun e=>e9 (congrArg (fun z:Rm=>z.things) e))]
   rfl
  simp only [y_hdSfS e9]
  rw [decide_eq_false (show ¬ k0+1+1+1+1+cntL c1_HdS x.kids+1+1+1+1+(cntL c1_SfS x.things:Int) < 0 by omega)]
  simp (disch:=omega) only [cond_false,wrapI]
  simp only [entK_of (dm_hdLI g2) (iv_hdLI g2),gdt]
  by_cases e10:x.tags=mk_LI x.tags (k0+1+1+1+1+cntL c1_HdS x.kids+1+1+1+1+cntL c1_SfS x.things)
  case neg =>
   simp only [n_hdLI e10]
   rw [decide_eq_false (show ¬ x=m1_RmS x k0 from fun e=>e10 (congrArg (fun z:Rm=>z.tags) e))]
   rfl
  simp only [y_hdLI e10]
  rw [decide_eq_false (show ¬ k0+1+1+1+1+cntL c1_HdS x.kids+1+1+1+1+cntL c1_SfS x.things+(cntL c1_LI x.tags:Int) < 0 by omega)]
  simp (disch:=omega) only [cond_false,wrapI]
  have hm:x=m1_RmS x k0:=by
   rcases x with ⟨⟨x0,x1⟩,⟨x2,x3⟩,x4,x5,x6,x7,x8,x9,x10⟩
   simp only [m1_RmS,Rm.mk.injEq,Hd.mk.injEq]
   exact ⟨⟨e0,e1⟩,⟨e2,e3⟩,e4,e5,e6,e7,e8,e9,e10⟩
  rw [decide_eq_true hm]
  simp only [Bool.not_true,cond_false]
  congr 2
 ·rw [round_hdRmS_1]
  simp only [lt_d,Nat.lt_irrefl,decide_false,cond_false,List.take_length]
theorem s_hdRmS:EntOk prog i_hdRmS e_hdRmS:=ent_ok eah_RmS_inj fun x hx =>
 body_sound (φ:=tb1) (tabS_cons s_hdHdS (tabS_cons s_hdSfS (tabS_cons s_hdLI tabS_nil))) mixed (kp:=kp_hdRmS) (n:=x.1.length+1) func75 (c:=bodyOf F_hdRmS) (by kernel_rfl) (body_hdRmS x.1 x.2 hx) (name_ok (by kernel_rfl))
def i_mkRmS:Nat:=72
noncomputable abbrev F_mkRmS:Func:=f72
def kp_mkRmS:List (Nat × List Nat):=[(0,[0,4,2]),(1,[0,4,20,2]),(2,[0,4,20,36,2]),(3,[0,4,20,2]),(4,[0,4,20,2]),(5,[0,4,20,2]),(6,[0,4,20,2]),(7,[0,4,20,2]),(8,[0,4,20,2]),(9,[0,4,20,2]),(10,[0,4,20,2]),(11,[0,4,20,2]),(12,[0,4,20,2]),(13,[0,4,20,2]),(14,[0,4,20,2]),(15,[0,4,20,2]),(16,[0,4,20,2]),(17,[0,4,20,2]),(18,[0,4,20,2]),(19,[0,4,20,2]),(20,[0,4,20,2]),(21,[0,4,20,2]),(22,[0,4,20,2]),(23,[16,2])]
def ts_mkRmS:List Nat:=[1,0]
def st_mkRmS_1 (l:List Rm) (k:Int) (x4:Int) (x20:Int) (nx2:Nat) (fx2:Nat→Nat→T):St:=[(0,⟨z0,[(false,[(C.ref 2 0 [0,0] 11 0 l.length)])]⟩),(4,⟨z0,[(false,[.tr true (T.int i64 x4)])]⟩),(20,⟨z0,[(false,[.tr true (T.int i64 x20)])]⟩),(2,⟨z0,[(false,[.tr true (.arr (11) (nx2) (fx2))])]⟩)]
def ex_mkRmS_1_1 (l:List Rm) (k:Int) (x4:Int) (x20:Int) (nx2:Nat) (fx2:Nat→Nat→T):St:=[(0,⟨z0,[(false,[(C.ref 2 0 [0,0] 11 0 l.length)])]⟩),(4,⟨z0,[(false,[.tr true (T.int i64 x4)])]⟩),(20,⟨z0,[(false,[.tr true (T.int i64 x20)])]⟩),(36,⟨z0,[]⟩),(2,⟨z0,[(false,[.tr true (.arr (11) (nx2) (fx2))])]⟩)]
noncomputable abbrev tb2:Sems:=tabS [(i_mkHdS,e_mkHdS),(i_mkSfS,e_mkSfS),(i_mkLI,e_mkLI)]
theorem round_mkRmS_1 (l:List Rm) (k:Int) (x4:Int) (x20:Int) (nx2:Nat) (fx2:Nat→Nat→T) (n:Nat) (K:Ex→St→Res):roundAt prog tb2 kp_mkRmS F_mkRmS [1,0,1,0] n (st_mkRmS_1 l k x4 x20 nx2 fx2) K=(let q1:=i64.wrap (i64.wrap (x4+1)+1);let q2:=i64.wrap (i64.wrap (x4+1)+1)+1;let q3:=setF (0+x20.toNat) (0+0) (T.int i64 x4) fx2;let q6:=setF (0+x20.toNat) (0+1) (T.int i64 (i64.wrap (x4+1))) q3;let q7:=setF (0+x20.toNat) (2+0) (T.int i64 q1) q6;let q8:=setF (0+x20.toNat) (2+1) (T.int i64 (i64.wrap q2)) q7;let q9:=setF (0+x20.toNat) (2+1) (T.int i64 (i64.wrap q2)) q7 (0+x20.toNat) (4+0);let q10:=setF (0+x20.toNat) (4+0) (T.lent 2 q9.ln) q8;bif decide (x20 < (↑l.length:Int)) then gd (decide (0≤x20)&&(x20.toNat.blt l.length&&true))<|gd ((0+x20.toNat).blt nx2&&true&&true)<|gd (decide (0≤x20)&&(x20.toNat.blt l.length&&true))<|gd ((0+x20.toNat).blt nx2&&true&&true)<|gd (decide (0≤x20)&&(x20.toNat.blt l.length&&true))<|gd ((0+x20.toNat).blt nx2&&true&&true)<|gd (decide (0≤x20)&&(x20.toNat.blt l.length&&true))<|gd ((0+x20.toNat).blt nx2&&true&&true)<|gd (decide (0≤x20)&&(x20.toNat.blt l.length&&true))<|gd ((0+x20.toNat).blt nx2&&true&&(q9.isArr&&q9.wd.beq 2))<|gd ((0+x20.toNat).blt nx2&&true&&true&&((T.arr 11 nx2 q8).get [0+x20.toNat,4+0]).isArr)<|gd (q9.ln.beq ((T.arr 11 nx2 q8).get [0+x20.toNat,4+0]).ln&&Nat.beq 2 ((T.arr 11 nx2 q8).get [0+x20.toNat,4+0]).wd)<|entK okh_HdS eam_HdS (fun x=>x) [(1,false,[C.tr true (T.arr 2 q9.ln ((T.arr 11 nx2 q8).get [0+x20.toNat,4+0]).fn)]),(0,false,[C.tr false (T.int i64 (i64.wrap (i64.wrap q2+1)))])] fun (r1:List Hd × Int)=>let q0:=i64.wrap (f_ctHdS r1+1)+1;let q4:=T.arr 2 (f_mkHdS r1).length (atL Hd.cs (f_mkHdS r1));let q11:=setF (0+x20.toNat) (4+0) q4 q10;let q12:=setF (0+x20.toNat) 5 (T.int i64 (f_ctHdS r1)) q11;let q13:=setF (0+x20.toNat) 6 (T.int i64 (i64.wrap (f_ctHdS r1+1))) q12;let q14:=setF (0+x20.toNat) 7 (T.bool ((i64.wrap q0).tmod 3 == 0)) q13;let q15:=setF (0+x20.toNat) 8 (T.int i64 (i64.wrap (i64.wrap q0+1))) q14;let q16:=setF (0+x20.toNat) 8 (T.int i64 (i64.wrap (i64.wrap q0+1))) q14 (0+x20.toNat) (9+0);let q17:=setF (0+x20.toNat) (9+0) (T.lent 1 q16.ln) q15;gd (q9.ln.beq (f_mkHdS r1).length&&((0+x20.toNat).blt nx2&&true&&true))<|gd (decide (0≤x20)&&(x20.toNat.blt l.length&&true))<|gd ((0+x20.toNat).blt nx2&&true&&true)<|gd (decide (0≤x20)&&(x20.toNat.blt l.length&&true))<|gd ((0+x20.toNat).blt nx2&&true&&true)<|gd (decide (0≤x20)&&(x20.toNat.blt l.length&&true))<|gd ((0+x20.toNat).blt nx2&&true&&true)<|gd (decide (0≤x20)&&(x20.toNat.blt l.length&&true))<|gd ((0+x20.toNat).blt nx2&&true&&true)<|gd (decide (0≤x20)&&(x20.toNat.blt l.length&&true))<|gd ((0+x20.toNat).blt nx2&&true&&(q16.isArr&&q16.wd.beq 1))<|gd ((0+x20.toNat).blt nx2&&true&&true&&((T.arr 11 nx2 q15).get [0+x20.toNat,9+0]).isArr)<|gd (q16.ln.beq ((T.arr 11 nx2 q15).get [0+x20.toNat,9+0]).ln&&Nat.beq 1 ((T.arr 11 nx2 q15).get [0+x20.toNat,9+0]).wd)<|entK okh_SfS eam_SfS (fun x=>x) [(1,false,[C.tr true (T.arr 1 q16.ln ((T.arr 11 nx2 q15).get [0+x20.toNat,9+0]).fn)]),(0,false,[C.tr false (T.int i64 (i64.wrap (i64.wrap (i64.wrap q0+1)+1)))])] fun (r2:List Sf × Int)=>let q5:=T.arr 1 (f_mkSfS r2).length (atL Sf.cs (f_mkSfS r2));let q18:=setF (0+x20.toNat) (9+0) q5 q17;let q19:=setF (0+x20.toNat) (9+0) q5 q17 (0+x20.toNat) (10+0);gd (q16.ln.beq (f_mkSfS r2).length&&((0+x20.toNat).blt nx2&&true&&true))<|gd (decide (0≤x20)&&(x20.toNat.blt l.length&&true))<|gd ((0+x20.toNat).blt nx2&&true&&(q19.isArr&&q19.wd.beq 1))<|gd ((0+x20.toNat).blt nx2&&true&&true&&((T.arr 11 nx2 q18).get [0+x20.toNat,10+0]).isArr)<|gd (q19.ln.beq ((T.arr 11 nx2 q18).get [0+x20.toNat,10+0]).ln&&Nat.beq 1 ((T.arr 11 nx2 q18).get [0+x20.toNat,10+0]).wd)<|entK okh_LI eam_LI (fun x=>x) [(1,false,[C.tr true (T.arr 1 q19.ln ((T.arr 11 nx2 q18).get [0+x20.toNat,10+0]).fn)]),(0,false,[C.tr false (T.int i64 (f_ctSfS r2))])] fun (r3:List Int × Int)=>gd (q19.ln.beq (f_mkLI r3).length&&((0+x20.toNat).blt nx2&&true&&true))<|K .normal (st_mkRmS_1 l k (f_ctLI r3) (i64.wrap (x20+1)) (nx2) (setF (0+x20.toNat) (10+0) (T.arr 1 (f_mkLI r3).length (atL rowI (f_mkLI r3))) (setF (0+x20.toNat) (10+0) (T.lent 1 q19.ln) q18))) else K (.exit 0) (ex_mkRmS_1_1 l k x4 x20 nx2 fx2)):=by kernel_rfl
theorem post_mkRmS_1_1 (l:List Rm) (k:Int) (x4:Int) (x20:Int) (nx2:Nat) (fx2:Nat→Nat→T) (n:Nat):contAt prog tb2 kp_mkRmS F_mkRmS ts_mkRmS [1,0,1,0] [] n (.exit 0) (ex_mkRmS_1_1 l k x4 x20 nx2 fx2)=(some ([(false,[.tr true (T.int i64 x4)])],[(false,[.tr true (.arr (11) (nx2) (fx2))]),(false,[])])):=by kernel_rfl
theorem pre_mkRmS (l:List Rm) (k:Int) (n:Nat):body prog tb2 kp_mkRmS n F_mkRmS [lT (eL 11 Rm.cs l),aI k]=(loopAt prog tb2 kp_mkRmS F_mkRmS [1,0,1,0] n n (st_mkRmS_1 l k (k) (0) (T.ln (eL 11 Rm.cs l)) (T.fn (eL 11 Rm.cs l))) (contAt prog tb2 kp_mkRmS F_mkRmS ts_mkRmS [1,0,1,0] [] n)):=by kernel_rfl
theorem body_mkRmS (l:List Rm) (k:Int) (h:okh_RmS (l,k)):body prog tb2 kp_mkRmS (l.length+1) F_mkRmS (eam_RmS (l,k))=some ([oT (.int .i64 (f_ctRmS (l,k)))],[oT (eL 11 Rm.cs (f_mkRmS (l,k))),nul]):=by
 obtain ⟨hl,hk0,hk1⟩:=h
 have hbm:=bm
 dsimp only at hl hk0 hk1
 have hl':l.length≤BM:=hl.1
 unfold eam_RmS f_ctRmS f_mkRmS
 dsimp only
 rw [pre_mkRmS]
 have hst:st_mkRmS_1 l k k 0 l.length (atL Rm.cs l)=(fun i:Nat=>st_mkRmS_1 l k (k+cntL c1_RmS (l.take i)) (i:Nat) l.length (atL Rm.cs (mkd m1_RmS c1_RmS l k i))) 0:=by simp [cntL,mkd_zero]
 refine Eq.trans (congrArg (fun s=>loopAt prog _ _ _ _ _ _ s _) hst) ?_
 rw [forLoop l.length (fun i:Nat=>st_mkRmS_1 l k (k+cntL c1_RmS (l.take i)) (i:Nat) l.length (atL Rm.cs (mkd m1_RmS c1_RmS l k i))) (ex_mkRmS_1_1 l k (k+cntL c1_RmS l) l.length l.length (atL Rm.cs (mk_RmS l k))) 0 (fun i K hi=>?_) (fun K=>?_) _ (Nat.le_refl _)]
 ·rw [post_mkRmS_1_1]
  have:=markL_len m1_RmS c1_RmS l k
  rw [eL_T,show (mk_RmS l k).length=l.length from this]
  rfl
 ·have hx:=List.getElem?_eq_getElem hi
  obtain ⟨x,hxe⟩:∃ x,x=l[i]:=⟨_,rfl⟩
  rw [← hxe] at hx
  have hxm:x∈l:=List.mem_of_getElem? hx
  have hg:=mkd_get m1_RmS c1_RmS l k hx
  have hc:=cntL_take c1_RmS l hx
  have hcl:=cntL_le c1_RmS l (i+1)
  have hcx:c1_RmS x=1+1+1+1+cntL c1_HdS x.kids+1+1+1+1+cntL c1_SfS x.things+cntL c1_LI x.tags:=rfl
  have h0:=(hl.2 _ hxm).1
  have h1:=(hl.2 _ hxm).2.1
  have h2:=(hl.2 _ hxm).2.2
  rw [hc,round_mkRmS_1]
  have hms:=mkd_set m1_RmS c1_RmS l k hx
  have hml:i < (mkd m1_RmS c1_RmS l k i).length:=by rw [mkd_len _ _ _ _ (by omega)];exact hi
  obtain ⟨k0,hk⟩:∃ k0,k0=k+(cntL c1_RmS (l.take i):Int):=⟨_,rfl⟩
  have hk2:k+((cntL c1_RmS (l.take i)+c1_RmS x:Nat):Int)=k0+1+1+1+1+cntL c1_HdS x.kids+1+1+1+1+cntL c1_SfS x.things+cntL c1_LI x.tags:=by omega
  rw [hk2]
  rw [← hk] at hms ⊢
  have g0:okh_HdS (x.kids,k0+1+1+1+1):=⟨h0,by dsimp only;omega,by dsimp only;omega⟩
  have g1:okh_SfS (x.things,k0+1+1+1+1+cntL c1_HdS x.kids+1+1+1+1):=⟨h1,by dsimp only;omega,by dsimp only;omega⟩
  have g2:okh_LI (x.tags,k0+1+1+1+1+cntL c1_HdS x.kids+1+1+1+1+cntL c1_SfS x.things):=⟨h2,by dsimp only;omega,by dsimp only;omega⟩
  simp (disch:=omega) only [rsx0,hi,atL_of hg,Rm.cs,wrapI,wrapS,setF_d,and_self,if_true,if_false,true_and,false_and,and_true,and_false,Nat.add_zero,Nat.reduceEqDiff,Nat.reduceAdd,entK_of (dm_mkHdS g0) (iv_mkHdS g0),len_mkHdS,d_mkHdS,d_ctHdS,entK_of (dm_mkSfS g1) (iv_mkSfS g1),len_mkSfS,d_mkSfS,d_ctSfS,entK_of (dm_mkLI g2) (iv_mkLI g2),len_mkLI,d_mkLI,d_ctLI]
  rw [← hms]
  congr 2
  refine set_atL hml fun j' k'=>?_
  by_cases e:j'=i
  ·subst e
   rcases k' with _ | _ | _ | _ | _ | _ | _ | _ | _ | _ | _ | k' <;> simp [int_eqM,setF_d,Rm.cs,m1_RmS,atL_of hg,eL_T,len_mkHdS,len_mkSfS,len_mkLI]
  ·simp [setF_d,e]
 ·rw [round_mkRmS_1,mkd_all]
  simp only [lt_d,Nat.lt_irrefl,decide_false,cond_false,List.take_length]
  rfl
theorem s_mkRmS:EntOk prog i_mkRmS e_mkRmS:=ent_ok eam_RmS_inj fun x hx =>
 body_sound (φ:=tb2) (tabS_cons s_mkHdS (tabS_cons s_mkSfS (tabS_cons s_mkLI tabS_nil))) mixed (kp:=kp_mkRmS) (n:=x.1.length+1) func72 (c:=bodyOf F_mkRmS) (by kernel_rfl) (body_mkRmS x.1 x.2 hx) (name_ok (by kernel_rfl))
theorem dm_hdRmS {l:List Rm} {k:Int} (h:okh_RmS (l,k)):dom okh_RmS eah_RmS [(0,false,[C.tr false (T.arr 11 l.length (atL Rm.cs l))]),(0,false,[C.tr false (T.int i64 k)])]=true:=dom_ea (ea:=eah_RmS) (x:=(l,k)) h
theorem iv_hdRmS {l:List Rm} {k:Int} (h:okh_RmS (l,k)):inv okh_RmS eah_RmS [(0,false,[C.tr false (T.arr 11 l.length (atL Rm.cs l))]),(0,false,[C.tr false (T.int i64 k)])]=(l,k):=inv_ea eah_RmS_inj (x:=(l,k)) h
theorem y_hdRmS {l:List Rm} {k:Int} (h:l=mk_RmS l k):f_hdRmS (l,k)=k+cntL c1_RmS l:=if_pos h
theorem n_hdRmS {l:List Rm} {k:Int} (h:¬ l=mk_RmS l k):f_hdRmS (l,k)=-1:=if_neg h
theorem dm_mkRmS {l:List Rm} {k:Int} (h:okh_RmS (l,k)):dom okh_RmS eam_RmS [(1,false,[C.tr true (T.arr 11 l.length (atL Rm.cs l))]),(0,false,[C.tr false (T.int i64 k)])]=true:=dom_ea (ea:=eam_RmS) (x:=(l,k)) h
theorem iv_mkRmS {l:List Rm} {k:Int} (h:okh_RmS (l,k)):inv okh_RmS eam_RmS [(1,false,[C.tr true (T.arr 11 l.length (atL Rm.cs l))]),(0,false,[C.tr false (T.int i64 k)])]=(l,k):=inv_ea eam_RmS_inj (x:=(l,k)) h
theorem len_mkRmS (l:List Rm) (k:Int):(mk_RmS l k).length=l.length:=markL_len _ _ _ _
theorem d_mkRmS (l:List Rm) (k:Int):f_mkRmS (l,k)=mk_RmS l k:=rfl
theorem d_ctRmS (l:List Rm) (k:Int):f_ctRmS (l,k)=k+cntL c1_RmS l:=rfl
end Go.Mach.F
namespace Go.Mach.F
open Go Go.Mach Go.Proofs.Tryz
theorem cb_RmS (l:List Rm):cntL c1_RmS l≤16 * n_RmS l:=by
 have:=cntL_lin c1_RmS n1_RmS 8 16 l fun x _=>by have:=cb_HdS x.kids;have:=cb_SfS x.things;have:=cb_LI x.tags;show c1_RmS x≤_;unfold c1_RmS n1_RmS;omega
 unfold n_RmS
 omega
theorem beq_mkRmS (l:List Rm) (k:Int):Nat.beq l.length (mk_RmS l k).length=true:=by rw [len_mkRmS];simp only [beq_self]
theorem ct1_RmS (x:Rm) (k:Int):c1_RmS (m1_RmS x k)=c1_RmS x:=by simp only [c1_RmS,m1_RmS,mkmk_HdS,ctmk_HdS,mkmk_SfS,ctmk_SfS,mkmk_LI,ctmk_LI]
theorem mm1_RmS (x:Rm) (k:Int):m1_RmS (m1_RmS x k) k=m1_RmS x k:=by simp only [m1_RmS,mkmk_HdS,ctmk_HdS,mkmk_SfS,ctmk_SfS,mkmk_LI,ctmk_LI]
theorem mkmk_RmS (l:List Rm) (k:Int):mk_RmS (mk_RmS l k) k=mk_RmS l k:=markL_idem m1_RmS c1_RmS (fun x k=>mm1_RmS x k) (fun x k=>ct1_RmS x k) l k
theorem ctmk_RmS (l:List Rm) (k:Int):cntL c1_RmS (mk_RmS l k)=cntL c1_RmS l:=cntL_mark m1_RmS c1_RmS (fun x k=>ct1_RmS x k) l k
theorem okqmk_RmS {l:List Rm} {k:Int} (h:okq_RmS l):okq_RmS (mk_RmS l k):=⟨by rw [len_mkRmS];exact h.1,fun x hx=>by
  obtain ⟨i,hi,e⟩:=List.getElem_of_mem hx
  have hi':i < l.length:=by rw [len_mkRmS] at hi;exact hi
  have hg:=markL_get m1_RmS c1_RmS l k (List.getElem?_eq_getElem hi')
  have he:(mk_RmS l k)[i]?=some x:=by rw [List.getElem?_eq_getElem hi,e]
  rw [show (mk_RmS l k)[i]?=(markL m1_RmS c1_RmS l k)[i]? from rfl,hg] at he
  obtain rfl:=Option.some.inj he
  have hy:l[i]∈l:=List.getElem_mem hi'
  exact ⟨okqmk_HdS ((h.2 _ hy).1),okqmk_SfS ((h.2 _ hy).2.1),okqmk_LI ((h.2 _ hy).2.2)⟩⟩
end Go.Mach.F
namespace Go.Mach
open Go
inductive Sh where
 | int (k:IntKind)
 | bool
 | arr (ss:List Sh)
def shFs (P:Program) (sub:TypeId→Option (List Sh)):Nat→List Field→Option (List Sh)
 | _,[]=>some []
 | o,f :: l=>bif Nat.beq f.offset o then match sub f.type with
  | some a=>bif Nat.beq a.length (P.cellsOf f.type) then match shFs P sub (o+a.length) l with
   | some r=>some (a ++ r)
   | none=>none
   else none
  | none=>none
  else none
/-- The shapes of a type's cells. -/
def shOf (P:Program):Nat→TypeId→Option (List Sh)
 | 0,_=>none
 | n+1,t=>match P.underlying t with
  | some .bool=>some [.bool]
  | some (.int k)=>some [.int k]
  | some (.slice e)=>match shOf P n e with
   | some l=>bif Nat.beq l.length (P.cellsOf e)&&Nat.blt 0 (P.bytesOf e)&&Nat.blt 0 l.length then some [.arr l] else none
   | none=>none
  | some (.struct fs)=>match shFs P (shOf P n) 0 fs.toList with
   | some l=>bif Nat.beq l.length (P.cellsOf t) then some l else none
   | none=>none
  | _=>none
/-- A tree has a shape. -/
def ShT:T→Sh→Prop
 | .int k n,s=>s=.int k∧(Lit.int k n).wf=true
 | .bool _,s=>s=.bool
 | .arr m n f,s=>∃ ss,s=.arr ss∧m=ss.length∧n≤F.ZM∧(∀ j,j < n→∀ k s',ss[k]?=some s'→ShT (f j k) s')∧∀ j k,(n≤j∨m≤k)→f j k=.hole
 | _,_=>False
def Cl (w:World) (N:Nat→Prop) (ts:List T) (ss:List Sh) (cs:List Value):Prop :=
 ts.length=ss.length∧cs.length=ss.length∧∀ (k:Nat) s,ss[k]?=some s→∃ t v,ts[k]?=some t∧cs[k]?=some v∧ShT t s∧RelIm w N t v
theorem Cl.nil {w N}:Cl w N [] [] []:=⟨rfl,rfl,fun k s h=>by simp at h⟩
theorem Cl.one {w N t s v} (h:ShT t s) (h':RelIm w N t v):Cl w N [t] [s] [v]:=⟨rfl,rfl,fun k s' hk=>by
 cases k with
 | zero=>simp at hk;subst hk;exact ⟨t,v,rfl,rfl,h,h'⟩
 | succ k=>simp at hk⟩
theorem Cl.append {w N ts ss cs ts' ss' cs'} (h:Cl w N ts ss cs) (h':Cl w N ts' ss' cs'):Cl w N (ts ++ ts') (ss ++ ss') (cs ++ cs'):=by
 refine ⟨by simp [h.1,h'.1],by simp [h.2.1,h'.2.1],fun k s hk=>?_⟩
 by_cases hl:k < ss.length
 ·rw [List.getElem?_append_left hl] at hk
  rw [List.getElem?_append_left (by rw [h.1];exact hl),List.getElem?_append_left (by rw [h.2.1];exact hl)]
  exact h.2.2 k s hk
 ·rw [List.getElem?_append_right (by omega)] at hk
  rw [List.getElem?_append_right (by rw [h.1];omega),List.getElem?_append_right (by rw [h.2.1];omega),h.1,h.2.1]
  exact h'.2.2 _ s hk
section
variable {H:Type} {enc:TypeId × Value→H} {P:Program} {w:World} {base:Nat} {spare:Nat→Bool} {held:Bool} {N:Nat→Prop}
/-- What is needed of a told value. -/
def Fit (P:Program) (N:Nat→Prop) (t:TypeId) (x:DataW H × List MemPlace):Prop:=(∀ p∈x.2,N p.block)∧∀ m∈x.1.weights P t,m≤reachBytes
theorem weightsAll_mem {e:TypeId}:∀ {ds:List (DataW H)} {j:Nat} {d:DataW H},ds[j]?=some d→∀ n∈d.weights P e,n∈DataW.weightsAll P e ds
 | d0 :: ds,0,d,hd,n,hn=>by
  simp only [List.getElem?_cons_zero,Option.some.injEq] at hd
  subst hd
  simp only [DataW.weightsAll,List.mem_append]
  exact .inl hn
 | d0 :: ds,j+1,d,hd,n,hn=>by
  simp only [List.getElem?_cons_succ] at hd
  simp only [DataW.weightsAll,List.mem_append]
  exact .inr (weightsAll_mem hd n hn)
 | [],_,_,hd,_,_=>by simp at hd
theorem reach_zm {n b:Nat} (h:n * b≤reachBytes) (hb:0 < b):n≤F.ZM:=by
 have:=reachBytes_lt
 have hz:=F.zm
 have:n * 1≤n * b:=Nat.mul_le_mul_left n hb
 omega
theorem open_fs {sub:TypeId→Option (List Sh)} {tr:TypeId→List Value→Option (DataW H × List MemPlace)}
  (hsub:∀ t ss cs x,sub t=some ss→tr t cs=some x→Fit P N t x→∃ ts,Cl w N ts ss cs) (cs:List Value) :
  ∀ (fs:List Field) (o:Nat) (ss:List Sh),shFs P sub o fs=some ss→(∀ (i:Nat) (f:Field),fs[i]?=some f→∃ x,tr f.type ((cs.drop f.offset).take (P.cellsOf f.type))=some x∧Fit P N f.type x) →
   ∃ ts,Cl w N ts ss ((cs.drop o).take ss.length)
 | [],o,ss,h,_=>by
  simp only [shFs,Option.some.injEq] at h
  subst h
  exact ⟨[],by simpa using Cl.nil⟩
 | f :: fs,o,ss,h,hx=>by
  unfold shFs at h
  cases ho:Nat.beq f.offset o with
  | false=>simp [ho] at h
  | true =>
   simp only [ho,cond_true] at h
   cases ha:sub f.type with
   | none=>simp [ha] at h
   | some a =>
    simp only [ha] at h
    cases hl:Nat.beq a.length (P.cellsOf f.type) with
    | false=>simp [hl] at h
    | true =>
     simp only [hl,cond_true] at h
     cases hr:shFs P sub (o+a.length) fs with
     | none=>simp [hr] at h
     | some r =>
      simp only [hr,Option.some.injEq] at h
      subst h
      obtain ⟨x,hx0,hf⟩:=hx 0 f rfl
      obtain ⟨ts,hts⟩:=hsub f.type a _ x ha hx0 hf
      obtain ⟨tr',htr⟩:=open_fs hsub cs fs (o+a.length) r hr fun i f' hi=>hx (i+1) f' (by simpa using hi)
      have e1:=Nat.eq_of_beq_eq_true ho
      have e2:=Nat.eq_of_beq_eq_true hl
      rw [← e2,e1] at hts
      refine ⟨ts ++ tr',?_⟩
      have:=hts.append htr
      rw [List.length_append,List.take_add]
      rw [List.drop_drop]
      exact this
theorem row_mem {a:Addr} {n:Nat} {N:Nat→Prop} (h:∀ p∈MemPlace.row a n,N p.block) (hn:0 < n):N a.block :=
 h (.cell a.block (a.off+0)) (List.mem_map.2 ⟨0,by simp;omega,rfl⟩)
theorem open_im:∀ (n:Nat) (t:TypeId) (ss:List Sh),shOf P n t=some ss→∀ (fuel:Nat) (cs:List Value) (x:DataW H × List MemPlace),DataW.trod enc P w base spare held fuel t cs=some x→Fit P N t x→∃ ts,Cl w N ts ss cs
 | 0,_,_,h,_,_,_,_,_=>by simp [shOf] at h
 | n+1,t,ss,h,fuel,cs,x,hx,hf=>by
  unfold shOf at h
  split at h
  case h_1 hu =>
   simp only [Option.some.injEq] at h
   subst h
   obtain ⟨b,rfl,_⟩:=DataW.trod_bool hu hx
   exact ⟨[.bool b],.one rfl rfl⟩
  case h_2 k hu =>
   simp only [Option.some.injEq] at h
   subst h
   obtain ⟨m,rfl,_,hw⟩:=DataW.trod_int hu hx
   exact ⟨[.int k m],.one ⟨rfl,hw⟩ rfl⟩
  case h_3 e hu =>
   cases hl:shOf P n e with
   | none=>simp [hl] at h
   | some l =>
    simp only [hl] at h
    cases hb:(Nat.beq l.length (P.cellsOf e)&&Nat.blt 0 (P.bytesOf e)&&Nat.blt 0 l.length) with
    | false=>simp [hb] at h
    | true =>
     simp only [hb,cond_true,Option.some.injEq] at h
     subst h
     simp only [Bool.and_eq_true,Nat.blt_eq] at hb
     obtain ⟨⟨h1,h2⟩,h3⟩:=hb
     have h1:=Nat.eq_of_beq_eq_true h1
     rcases DataW.trod_slice hu hx with ⟨rfl,rfl⟩ | ⟨a,len,cap,elems,rest,m,rfl,rfl,rfl,hba,hlc,hcap,hel,hat,_,_⟩
     ·exact ⟨[.arr l.length 0 fun _ _=>.hole],.one ⟨l,rfl,rfl,Nat.zero_le _,fun j hj=>by omega,fun _ _ _=>rfl⟩ ⟨none,0,rfl,Nat.le_refl _,fun h=>by omega⟩⟩
     ·obtain ⟨hp,hw⟩:=hf
      dsimp only at hp hw
      simp only [DataW.weights,hu,List.mem_cons,List.mem_append,List.length_map] at hw
      have hlen:len≤F.ZM:=by
       have:=reach_zm (hw _ (.inl rfl)) h2
       omega
      have key:∀ i,∃ ts,i < len→∃ csi,w.cells? base (a.add (i * P.cellsOf e)) (P.cellsOf e)=some csi∧Cl w N ts l csi:=fun i=>by
       by_cases hi:i < len
       ·have h4:=hat i hi
        have hxi:=List.getElem?_eq_getElem (show i < elems.length by omega)
        rw [hxi] at h4
        obtain ⟨csi,h5,h6⟩:=Option.bind_eq_some_iff.1 h4
        have hfi:Fit P N e elems[i]:=by
         refine ⟨fun p hp'=>hp p (List.mem_append_right _ (List.mem_flatMap.2 ⟨elems[i],List.mem_append_left _ (List.getElem_mem _),hp'⟩)),fun m' hm'=>hw m' (.inr (.inl ?_))⟩
         exact weightsAll_mem (j:=i) (d:=elems[i].1) (by rw [List.getElem?_map,hxi];rfl) _ hm'
        obtain ⟨ts,hts⟩:=open_im n e l hl m csi _ h6 hfi
        exact ⟨ts,fun _=>⟨csi,h5,hts⟩⟩
       ·exact ⟨[],fun h=>absurd h hi⟩
      obtain ⟨g,hg⟩:=Classical.axiomOfChoice key
      refine ⟨[.arr l.length len fun j k=>if j < len then (g j).getD k .hole else .hole],.one ⟨l,rfl,rfl,hlen,fun j hj k s' hs=>?_,fun j k hjk=>?_⟩ ⟨some a,cap,rfl,hlc,fun h0=>?_⟩⟩
      ·simp only [hj,if_true]
       obtain ⟨csj,_,hcl⟩:=hg j hj
       obtain ⟨t',v',ht',_,hsh,_⟩:=hcl.2.2 k s' hs
       rw [List.getD_eq_getElem?_getD,ht']
       exact hsh
      ·by_cases hj:j < len
       ·simp only [hj,if_true]
        obtain ⟨csj,_,hcl⟩:=hg j hj
        rw [List.getD_eq_getElem?_getD,List.getElem?_eq_none (by rw [hcl.1];omega)]
        rfl
       ·simp only [hj,if_false]
      ·have hpos:0 < (elems.length+rest.length) * P.cellsOf e:=Nat.mul_pos (by omega) (by omega)
       have hN:N a.block:=row_mem (fun p hp'=>hp p (List.mem_append_left _ hp')) hpos
       obtain ⟨cs0,hc0,hcl0⟩:=hg 0 h0
       obtain ⟨_,hlen0,hcell0⟩:=World.cells?_some hc0
       have g0:=hcell0 0 (by omega)
       have hsp:a.spot=none:=by
        obtain ⟨v0,hv0⟩:∃ v0,cs0[0]?=some v0:=⟨_,List.getElem?_eq_getElem (by omega)⟩
        rw [hv0] at g0
        have:=World.cell?_spot g0
        simpa [Addr.add] using this
       obtain ⟨b,off,sp⟩:=a
       dsimp only at hsp
       subst hsp
       refine ⟨b,off,rfl,hN,fun j hj k hk=>?_⟩
       simp only [hj,if_true]
       obtain ⟨csj,hcj,hcl⟩:=hg j hj
       obtain ⟨_,hlenj,hcellj⟩:=World.cells?_some hcj
       obtain ⟨t',v',ht',hv',_,him⟩:=hcl.2.2 k l[k] (List.getElem?_eq_getElem hk)
       have hc:=hcellj k (by omega)
       rw [WideShapes.add_plain,WideShapes.add_plain,hv'] at hc
       refine ⟨v',?_,by rw [List.getD_eq_getElem?_getD,ht'];exact him⟩
       rw [show off+(j * l.length+k)=off+j * P.cellsOf e+k by rw [h1];omega]
       exact hc
  case h_4 fs hu =>
   cases hl:shFs P (shOf P n) 0 fs.toList with
   | none=>simp [hl] at h
   | some l =>
    simp only [hl] at h
    cases hb:Nat.beq l.length (P.cellsOf t) with
    | false=>simp [hb] at h
    | true =>
     simp only [hb,cond_true,Option.some.injEq] at h
     subst h
     have hb:=Nat.eq_of_beq_eq_true hb
     obtain ⟨xs,m,rfl,rfl,hlen,hxl,hget⟩:=DataW.trod_struct hu hx
     obtain ⟨hp,hw⟩:=hf
     dsimp only at hp hw
     simp only [DataW.weights,hu] at hw
     obtain ⟨ts,hts⟩:=open_fs (P:=P) (w:=w) (N:=N) (sub:=shOf P n) (tr:=DataW.trod enc P w base spare held m) (fun t' ss' cs' x' h1 h2 h3=>open_im n t' ss' h1 m cs' x' h2 h3) cs fs.toList 0 l hl fun i f hi=>by
      have hi':fs[i]?=some f:=by simpa using hi
      have hil:i < fs.size:=(Array.getElem?_eq_some_iff.1 hi').1
      have hx':=hget i f hi'
      have hxi:=List.getElem?_eq_getElem (show i < xs.length by omega)
      rw [hxi] at hx'
      refine ⟨_,hx',fun p hp'=>hp p (List.mem_flatMap.2 ⟨xs[i],List.getElem_mem _,hp'⟩),fun m' hm'=>hw m' ?_⟩
      exact DataW.weights_mem_each (j:=i) (t:=f.type) (d:=xs[i].1) (by simp [hi']) (by simp [hxi]) _ hm'
     refine ⟨ts,?_⟩
     rw [List.drop_zero,hb,← hlen,List.take_length] at hts
     exact hts
  case h_5=>cases h
end
/-! ### arguments -/
def D0:Nat→Prop:=Dof fun _=>noG
theorem not_D0 (b:Nat):¬ D0 b:=fun ⟨_,_,_,_,h,_⟩=>by cases h
def ShTs:List T→List Sh→Prop
 | [],[]=>True
 | t :: ts,s :: ss=>ShT t s∧ShTs ts ss
 | _,_=>False
theorem Cl.shts {w N}:∀ {ts ss cs},Cl w N ts ss cs→ShTs ts ss
 | [],[],_,_=>trivial
 | [],s :: ss,_,h=>by have:=h.1;simp at this
 | t :: ts,[],_,h=>by have:=h.1;simp at this
 | t :: ts,s :: ss,[],h=>by have:=h.2.1;simp at this
 | t :: ts,s :: ss,c :: cs,h=>by
  refine ⟨?_,Cl.shts (w:=w) (N:=N) (ts:=ts) (ss:=ss) (cs:=cs) ⟨by simpa using h.1,by simpa using h.2.1,fun k s' hk=>?_⟩⟩
  ·obtain ⟨t',v',ht,_,hs,_⟩:=h.2.2 0 s rfl
   simp at ht
   subst ht
   exact hs
  ·obtain ⟨t',v',ht,hv,hs,hr⟩:=h.2.2 (k+1) s' (by simpa using hk)
   exact ⟨t',v',by simpa using ht,by simpa using hv,hs,hr⟩
section
variable {H:Type} {enc:TypeId × Value→H} {P:Program} {W:World}
theorem open_row {n:Nat} {t:TypeId} {ss:List Sh} {vs:Array Value} {d:DataW H} {ps:List MemPlace} (hs:shOf P n t=some ss) (h:DataW.Trod enc P W 0 (fun _=>true) true t (.agg vs) d ps) (hlt:∀ x∈ps,x.block < W.heap.size) (hw:∀ m∈d.weights P t,m≤reachBytes) :
  ∃ ts,ShTs ts ss∧ArgRow W D0 (F.aR ts).2 (.agg vs):=by
 obtain ⟨fuel,hf⟩:=h
 obtain ⟨ts,hts⟩:=open_im (N:=fun b=>b < W.heap.size) n t ss hs fuel _ (d,ps) hf ⟨hlt,hw⟩
 refine ⟨ts,hts.shts,fun G V=>⟨vs,rfl,?_,fun k c hk=>?_⟩⟩
 ·have h1:=hts.1
  have h2:=hts.2.1
  simp only [Value.cells,Array.length_toList] at h2
  simp only [F.aR,List.length_map]
  omega
 ·simp only [F.aR,List.getElem?_map,Option.map_eq_some_iff] at hk
  obtain ⟨t',ht',rfl⟩:=hk
  have hk:k < ss.length:=by rw [← hts.1];exact (List.getElem?_eq_some_iff.1 ht').1
  obtain ⟨t2,v,h1,h2,_,him⟩:=hts.2.2 k ss[k] (List.getElem?_eq_getElem hk)
  rw [ht'] at h1
  cases h1
  simp only [Value.cells,Array.getElem?_toList] at h2
  refine ⟨v,h2,?_⟩
  have e:(calleeEnv W D0).N=fun b=>b < W.heap.size:=by
   funext b
   simp only [Env.N,calleeEnv,not_D0,not_false_eq_true,and_true]
  show RelIm W (calleeEnv W D0).N t' v
  rw [e]
  exact him
end
/-! ### the arguments together -/
theorem args_x {w:World} {args:List Arg} {vals:Array Value} (hs:vals.size=args.length) (h:∀ (i:Nat) x,args[i]?=some x→x.1=0∧∃ u,vals[i]?=some u∧ArgRow w D0 x.2 u):ArgsX w args vals fun _=>noG where
 size:=hs
 inj:=fun i p i' p' ad c ad' c' h=>by cases h
 rng:=fun i p ad c h=>by cases h
 arg:=fun i x hi=>by
  obtain ⟨h0,u,hu,hr⟩:=h i x hi
  refine ⟨u,hu,?_⟩
  unfold ArgOk
  rw [if_neg (by omega),if_neg (by omega)]
  exact hr
theorem GrewD.below {w w':World} (h:GrewD w w' D0):RowKit.Below w.heap.size w w':=⟨h.os,h.tape,h.output,h.size,fun b hb=>h.old b hb (not_D0 b)⟩
theorem res_bool {w w':World} {γ:Nat→Gh} {args vals k b v δ} (h:ResX w w' γ args vals (F.erB k b).1 (F.erB k b).2 v δ):v=.bool b:=h.res (calleeEnv w D0) (fun _=>noG) fun _=>z0
/-! ### shapes of lists -/
namespace F
theorem sh_int {t:T} {k:IntKind} (h:ShT t (.int k)):∃ n,t=.int k n∧(Lit.int k n).wf=true:=by
 cases t <;> simp only [ShT] at h
 ·obtain ⟨h,hw⟩:=h
  cases h
  exact ⟨_,rfl,hw⟩
 ·cases h
 ·obtain ⟨_,h,_⟩:=h
  cases h
theorem sh_bool {t:T} (h:ShT t .bool):∃ b,t=.bool b:=by
 cases t <;> simp only [ShT] at h
 ·obtain ⟨h,hw⟩:=h
  cases h
 ·exact ⟨_,rfl⟩
 ·obtain ⟨_,h,_⟩:=h
  cases h
theorem sh_list {α:Type} {row:α→List T} {ss:List Sh} (ok:α→Prop) (hrow:∀ x,(row x).length=ss.length) (hc:∀ ts,ShTs ts ss→∃ x,ts=row x∧ok x) {t:T} (h:ShT t (.arr ss)) :
  ∃ l:List α,t=eL ss.length row l∧l.length≤ZM∧∀ x∈l,ok x:=by
 cases t <;> simp only [ShT] at h
 ·obtain ⟨h,hw⟩:=h
  cases h
 ·cases h
 rename_i m n f
 obtain ⟨ss',h1,rfl,hn,hin,hout⟩:=h
 cases h1
 have hts:∀ j,j < n→ShTs ((List.range ss.length).map (f j)) ss:=by
  intro j hj
  have key:∀ (l:List Sh) (o:Nat),(∀ k s',l[k]?=some s'→ShT (f j (o+k)) s')→ShTs ((List.range' o l.length).map (f j)) l:=by
   intro l
   induction l with
   | nil=>intro o _;trivial
   | cons s l ih =>
    intro o hl
    simp only [List.length_cons,List.range'_succ,List.map_cons]
    refine ⟨hl 0 s rfl,ih (o+1) fun k s' hk=>?_⟩
    have:=hl (k+1) s' (by simpa using hk)
    rwa [show o+(k+1)=o+1+k by omega] at this
  rw [List.range_eq_range']
  exact key ss 0 fun k s' hk=>by rw [Nat.zero_add];exact hin j hj k s' hk
 have hx:∀ j,∃ o:Option α,j < n→∃ x,o=some x∧(List.range ss.length).map (f j)=row x∧ok x:=fun j=>by
  by_cases hj:j < n
  ·obtain ⟨x,h1,h2⟩:=hc _ (hts j hj)
   exact ⟨some x,fun _=>⟨x,rfl,h1,h2⟩⟩
  ·exact ⟨none,fun h=>absurd h hj⟩
 obtain ⟨g,hg⟩:=Classical.axiomOfChoice hx
 have hl:∀ i,i≤n→∃ l:List α,l.length=i∧∀ j,j < i→l[j]?=g j:=by
  intro i
  induction i with
  | zero=>exact fun _=>⟨[],rfl,fun j hj=>by omega⟩
  | succ i ih =>
   intro hi
   obtain ⟨l,h1,h2⟩:=ih (by omega)
   obtain ⟨x,h3,_⟩:=hg i (by omega)
   refine ⟨l ++ [x],by simp [h1],fun j hj=>?_⟩
   by_cases hj':j < i
   ·rw [List.getElem?_append_left (by omega)];exact h2 j hj'
   ·have:j=i:=by omega
    subst this
    rw [List.getElem?_append_right (by omega),h1,h3]
    simp
 obtain ⟨l,h1,h2⟩:=hl n (Nat.le_refl _)
 refine ⟨l,eL_ext h1.symm fun j k=>?_,by omega,fun x hx=>?_⟩
 ·by_cases hj:j < n
  ·obtain ⟨x,h3,h4,_⟩:=hg j hj
   rw [h2 j hj,h3]
   dsimp only
   by_cases hk:k < ss.length
   ·rw [← h4,List.getD_eq_getElem?_getD,List.getElem?_map,List.getElem?_range hk]
    rfl
   ·rw [hout j k (.inr (by omega)),List.getD_eq_getElem?_getD,List.getElem?_eq_none (by rw [hrow];omega)]
    rfl
  ·rw [List.getElem?_eq_none (by omega)]
   exact hout j k (.inl (by omega))
 ·obtain ⟨j,hj,rfl⟩:=List.getElem_of_mem hx
  obtain ⟨y,h3,_,h5⟩:=hg j (by omega)
  have:=h2 j (by omega)
  rw [List.getElem?_eq_getElem hj,h3] at this
  cases this
  exact h5
theorem shs_nil {ts:List T} (h:ShTs ts []):ts=[]:=by cases ts with | nil=>rfl | cons _ _=>exact h.elim
theorem shs_cons {ts:List T} {s ss} (h:ShTs ts (s :: ss)):∃ t ts',ts=t :: ts'∧ShT t s∧ShTs ts' ss:=by cases ts with | nil=>exact h.elim | cons t ts=>exact ⟨t,ts,rfl,h⟩
theorem sh_LI {t:T} (h:ShT t (.arr [.int .i64])):∃ l:List Int,t=eI l∧l.length≤ZM:=by
 obtain ⟨l,h1,h2,_⟩:=sh_list (row:=rowI) (fun _=>True) (fun _=>rfl) (fun ts hts=>by
  obtain ⟨t,ts',rfl,h1,h2⟩:=shs_cons hts
  obtain rfl:=shs_nil h2
  obtain ⟨n,rfl,_⟩:=sh_int h1
  exact ⟨n,rfl,trivial⟩) h
 exact ⟨l,h1,h2⟩
theorem sh_LB {t:T} (h:ShT t (.arr [.int .u8])):∃ l:List UInt8,t=eB l∧l.length≤ZM:=by
 obtain ⟨l,h1,h2,_⟩:=sh_list (row:=rowB) (fun _=>True) (fun _=>rfl) (fun ts hts=>by
  obtain ⟨t,ts',rfl,h1,h2⟩:=shs_cons hts
  obtain rfl:=shs_nil h2
  obtain ⟨n,rfl,hw⟩:=sh_int h1
  have hn:IntKind.u8.min≤n∧n≤IntKind.u8.max:=by simpa [Lit.wf] using hw
  rw [show IntKind.u8.min=0 from rfl,show IntKind.u8.max=255 from rfl] at hn
  refine ⟨UInt8.ofNat n.toNat,?_,trivial⟩
  simp only [rowB,UInt8.toNat_ofNat']
  congr 2
  omega) h
 exact ⟨l,h1,h2⟩
end F
end Go.Mach
namespace Go.Mach.F
open Go Go.Mach Go.Proofs.Tryz
--=set_option maxRecDepth 100000
theorem aR_inj {cs cs':List T} (h:aR cs=aR cs'):cs=cs':=by
 have e:=congrArg (fun a:Arg=>a.2.2) h
 exact (List.map_inj_right (fun x y h=>by cases h;rfl)).1 e
theorem aT_inj {t t':T} (h:aT t=aT t'):t=t':=by cases h;rfl
theorem aI_inj {n m:Int} (h:aI n=aI m):n=m:=by cases h;rfl
theorem aB_inj {n m:Bool} (h:aB n=aB m):n=m:=by cases h;rfl
theorem cond_tf (b:Bool):(bif b then true else false)=b:=by cases b <;> rfl
theorem cond_bf (a b:Bool):(bif a then b else false)=(a&&b):=by cases a <;> rfl
theorem dec_and {p q:Prop} [Decidable p] [Decidable q]:(decide p&&decide q)=decide (p∧q):=(Bool.decide_and p q).symm
theorem int_eq (a b:Int):(a == b)=decide (a=b):=by by_cases h:a=b <;> simp [h]
theorem cut_all {α:Type} (row:α→List T) (l:List α):cutT 0 l.length (atL row l)=atL row l:=by
 funext j k
 unfold cutT
 rw [blt_d,Bool.cond_decide]
 split
 ·rw [Nat.zero_add]
 ·rename_i h
  unfold atL
  rw [List.getElem?_eq_none (by omega)]
theorem bool_self (b:Bool):(b == b)=true:=by cases b <;> rfl
theorem bool_nself (b:Bool):(b != b)=false:=by cases b <;> rfl
theorem int_self (a:Int):(a == a)=true:=by simp
theorem int_nself (a:Int):(a != a)=false:=by simp
def aF (f:Nat) (cs:List T):Arg:=(0,(false,[.fn f [.pim cs.length (pimF cs)]]))
theorem aF_inj {f:Nat} {cs cs':List T} (hl:cs.length=cs'.length) (h:aF f cs=aF f cs'):cs=cs':=by
 simp only [aF,Prod.mk.injEq,List.cons.injEq,C.fn.injEq,Pt.pim.injEq,true_and,and_true] at h
 apply List.ext_getElem hl
 intro i hi hi'
 have:=congrFun h.2 i
 simpa [pimF,List.getD_eq_getElem?_getD,List.getElem?_eq_getElem hi,List.getElem?_eq_getElem hi'] using this
theorem Hd.cs_ext {x y:Hd} (h:x.cs=y.cs):x=y:=Hd.cs_inj x y fun k=>by rw [h]
theorem Rf.cs_inj (x y:Rf) (h:∀ k,x.cs.getD k .hole=y.cs.getD k .hole):x=y:=by
 have h0:=h 0;have h1:=h 1;have h2:=h 2;have h3:=h 3
 rcases x with ⟨⟨x0,x1⟩,x2,x3⟩
 rcases y with ⟨⟨y0,y1⟩,y2,y3⟩
 simp only [Rf.cs,List.getD_cons_zero,List.getD_cons_succ,T.int.injEq,T.bool.injEq,true_and] at h0 h1 h2 h3
 subst h0;subst h1;subst h2;subst h3
 rfl
theorem Rf.cs_ext {x y:Rf} (h:x.cs=y.cs):x=y:=Rf.cs_inj x y fun k=>by rw [h]
def i_toRf:Nat:=55
noncomputable abbrev F_toRf:Func:=f55
def kp_toRf:List (Nat × List Nat):=[(0,[4,5,8,9]),(1,[4,5,8,9,12,13]),(2,[4,5,8,9,12,13]),(3,[4,5,8,9,12,13]),(4,[8,9,12,13]),(5,[8,9])]
noncomputable def e_toRf:Ent:=inl [] prog (tabS [(i_toHd,e_toHd)]) kp_toRf 0 F_toRf
theorem s_toRf:EntOk prog i_toRf e_toRf:=inl_ok (tabS_cons s_toHd tabS_nil) mixed (c:=bodyOf F_toRf) func55 (by kernel_rfl) (name_ok (by kernel_rfl))
theorem Cf.cs_inj (x y:Cf) (h:∀ k,x.cs.getD k .hole=y.cs.getD k .hole):x=y:=by
 have h0:=h 0;have h1:=h 1;have h2:=h 2;have h3:=h 3;have h4:=h 4;have h5:=h 5
 rcases x with ⟨x0,x1,x2,x3,x4,x5⟩
 rcases y with ⟨y0,y1,y2,y3,y4,y5⟩
 simp only [Cf.cs,List.getD_cons_zero,List.getD_cons_succ,T.int.injEq,T.bool.injEq,true_and] at h0 h1 h2 h3 h4 h5
 subst h0;subst h1;subst h2;subst h3;subst h4;subst h5
 rfl
theorem Cf.cs_ext {x y:Cf} (h:x.cs=y.cs):x=y:=Cf.cs_inj x y fun k=>by rw [h]
def i_toCf:Nat:=51
noncomputable abbrev F_toCf:Func:=f51
def kp_toCf:List (Nat × List Nat):=[(0,[4,5,8,9]),(1,[4,5,8,9,12,13]),(2,[4,5,8,9,12,13]),(3,[4,5,8,9,12,13]),(4,[4,5,8,9,12,13]),(5,[4,5,8,9,12,13]),(6,[4,5,8,9,12,13]),(7,[8,9,12,13]),(8,[8,9])]
noncomputable def e_toCf:Ent:=inl [] prog (tabS []) kp_toCf 0 F_toCf
theorem s_toCf:EntOk prog i_toCf e_toCf:=inl_ok tabS_nil mixed (c:=bodyOf F_toCf) func51 (by kernel_rfl) (name_ok (by kernel_rfl))
def i_eqCf:Nat:=66
noncomputable abbrev F_eqCf:Func:=f66
def kp_eqCf:List (Nat × List Nat):=[(0,[8,9,12,13]),(1,[8,9,12,13,36]),(2,[16]),(3,[8,9,12,13,56]),(4,[16]),(5,[8,9,12,13,76]),(6,[16]),(7,[8,9,12,13,96]),(8,[16]),(9,[8,9,12,13,116]),(10,[16]),(11,[136]),(12,[16]),(13,[16])]
noncomputable def e_eqCf:Ent:=inl [] prog (tabS []) kp_eqCf 0 F_eqCf
theorem s_eqCf:EntOk prog i_eqCf e_eqCf:=inl_ok tabS_nil mixed (c:=bodyOf F_eqCf) func66 (by kernel_rfl) (name_ok (by kernel_rfl))
abbrev shHd:List Sh:=[.int .i64,.int .i64]
def z_Hd (x:Hd):Prop:=True
theorem sh_Hd {ts:List T} (hh:ShTs ts shHd):∃ x:Hd,ts=x.cs∧z_Hd x:=by
 obtain ⟨t0,ts,rfl,h0,hh⟩:=shs_cons hh
 obtain ⟨t1,ts,rfl,h1,hh⟩:=shs_cons hh
 obtain rfl:=shs_nil hh
 obtain ⟨x0,rfl,_⟩:=sh_int h0
 obtain ⟨x1,rfl,_⟩:=sh_int h1
 exact ⟨⟨x0,x1⟩,rfl,trivial⟩
theorem sh_HdS {t:T} (h:ShT t (.arr shHd)):∃ l:List Hd,t=eL 2 Hd.cs l∧l.length≤ZM∧∀ x∈l,z_Hd x:=sh_list z_Hd (fun _=>rfl) (fun _ hts=>sh_Hd hts) h
end Go.Mach.F
namespace Go.Mach.F
open Go Go.Mach Go.Proofs.Tryz
--=set_option maxRecDepth 100000
theorem Ml.cs_inj (x y:Ml) (h:∀ k,x.cs.getD k .hole=y.cs.getD k .hole):x=y:=by
 have h0:=h 0;have h1:=h 1;have h2:=h 2;have h3:=h 3;have h4:=h 4;have h5:=h 5;have h6:=h 6;have h7:=h 7
 rcases x with ⟨⟨x0,x1,x2,x3,x4,x5⟩,x6,x7⟩
 rcases y with ⟨⟨y0,y1,y2,y3,y4,y5⟩,y6,y7⟩
 simp only [Ml.cs,List.getD_cons_zero,List.getD_cons_succ,T.int.injEq,T.bool.injEq,true_and] at h0 h1 h2 h3 h4 h5 h6 h7
 replace h6:=eL_inj Rm.cs_inj h6
 replace h7:=eI_inj h7
 subst h0;subst h1;subst h2;subst h3;subst h4;subst h5;subst h6;subst h7
 rfl
theorem Rm.cs_ext {x y:Rm} (h:x.cs=y.cs):x=y:=Rm.cs_inj x y fun k=>by rw [h]
theorem Ml.cs_ext {x y:Ml} (h:x.cs=y.cs):x=y:=Ml.cs_inj x y fun k=>by rw [h]
noncomputable abbrev tb3:Sems:=tabS [(i_toCf,e_toCf),(i_toRmS,e_toRmS),(i_toLI,e_toLI)]
noncomputable abbrev tb4:Sems:=tabS [(i_eqCf,e_eqCf),(i_eqRmS,e_eqRmS),(i_eqLI,e_eqLI)]
noncomputable abbrev tb5:Sems:=tabS [(i_szRmS,e_szRmS),(i_szLI,e_szLI)]
abbrev shSf:List Sh:=[.arr [.int .u8]]
def z_Sf (x:Sf):Prop:=okz_LB x.b
theorem sh_Sf {ts:List T} (hh:ShTs ts shSf):∃ x:Sf,ts=x.cs∧z_Sf x:=by
 obtain ⟨t0,ts,rfl,h0,hh⟩:=shs_cons hh
 obtain rfl:=shs_nil hh
 obtain ⟨x0,rfl,z0⟩:=sh_LB h0
 exact ⟨⟨x0⟩,rfl,z0⟩
theorem sh_SfS {t:T} (h:ShT t (.arr shSf)):∃ l:List Sf,t=eL 1 Sf.cs l∧l.length≤ZM∧∀ x∈l,z_Sf x:=sh_list z_Sf (fun _=>rfl) (fun _ hts=>sh_Sf hts) h
abbrev shRm:List Sh:=[.int .i64,.int .i64,.int .i64,.int .i64,.arr shHd,.int .i64,.int .i64,.bool,.int .i64,.arr shSf,.arr [.int .i64]]
def z_Rm (x:Rm):Prop:=okz_HdS x.kids∧okz_SfS x.things∧okz_LI x.tags
theorem sh_Rm {ts:List T} (hh:ShTs ts shRm):∃ x:Rm,ts=x.cs∧z_Rm x:=by
 obtain ⟨t0,ts,rfl,h0,hh⟩:=shs_cons hh
 obtain ⟨t1,ts,rfl,h1,hh⟩:=shs_cons hh
 obtain ⟨t2,ts,rfl,h2,hh⟩:=shs_cons hh
 obtain ⟨t3,ts,rfl,h3,hh⟩:=shs_cons hh
 obtain ⟨t4,ts,rfl,h4,hh⟩:=shs_cons hh
 obtain ⟨t5,ts,rfl,h5,hh⟩:=shs_cons hh
 obtain ⟨t6,ts,rfl,h6,hh⟩:=shs_cons hh
 obtain ⟨t7,ts,rfl,h7,hh⟩:=shs_cons hh
 obtain ⟨t8,ts,rfl,h8,hh⟩:=shs_cons hh
 obtain ⟨t9,ts,rfl,h9,hh⟩:=shs_cons hh
 obtain ⟨t10,ts,rfl,h10,hh⟩:=shs_cons hh
 obtain rfl:=shs_nil hh
 obtain ⟨x0,rfl,_⟩:=sh_int h0
 obtain ⟨x1,rfl,_⟩:=sh_int h1
 obtain ⟨x2,rfl,_⟩:=sh_int h2
 obtain ⟨x3,rfl,_⟩:=sh_int h3
 obtain ⟨x4,rfl,z4,_⟩:=sh_HdS h4
 obtain ⟨x5,rfl,_⟩:=sh_int h5
 obtain ⟨x6,rfl,_⟩:=sh_int h6
 obtain ⟨x7,rfl⟩:=sh_bool h7
 obtain ⟨x8,rfl,_⟩:=sh_int h8
 obtain ⟨x9,rfl,z9,y9⟩:=sh_SfS h9
 obtain ⟨x10,rfl,z10⟩:=sh_LI h10
 exact ⟨⟨⟨x0,x1⟩,⟨x2,x3⟩,x4,x5,x6,x7,x8,x9,x10⟩,rfl,⟨z4,⟨z9,y9⟩,z10⟩⟩
theorem sh_RmS {t:T} (h:ShT t (.arr shRm)):∃ l:List Rm,t=eL 11 Rm.cs l∧l.length≤ZM∧∀ x∈l,z_Rm x:=sh_list z_Rm (fun _=>rfl) (fun _ hts=>sh_Rm hts) h
abbrev shMl:List Sh:=[.int .i64,.int .i64,.int .i64,.int .i64,.int .i64,.int .i64,.arr shRm,.arr [.int .i64]]
def z_Ml (x:Ml):Prop:=okz_RmS x.rooms∧okz_LI x.log
theorem sh_Ml {ts:List T} (hh:ShTs ts shMl):∃ x:Ml,ts=x.cs∧z_Ml x:=by
 obtain ⟨t0,ts,rfl,h0,hh⟩:=shs_cons hh
 obtain ⟨t1,ts,rfl,h1,hh⟩:=shs_cons hh
 obtain ⟨t2,ts,rfl,h2,hh⟩:=shs_cons hh
 obtain ⟨t3,ts,rfl,h3,hh⟩:=shs_cons hh
 obtain ⟨t4,ts,rfl,h4,hh⟩:=shs_cons hh
 obtain ⟨t5,ts,rfl,h5,hh⟩:=shs_cons hh
 obtain ⟨t6,ts,rfl,h6,hh⟩:=shs_cons hh
 obtain ⟨t7,ts,rfl,h7,hh⟩:=shs_cons hh
 obtain rfl:=shs_nil hh
 obtain ⟨x0,rfl,_⟩:=sh_int h0
 obtain ⟨x1,rfl,_⟩:=sh_int h1
 obtain ⟨x2,rfl,_⟩:=sh_int h2
 obtain ⟨x3,rfl,_⟩:=sh_int h3
 obtain ⟨x4,rfl,_⟩:=sh_int h4
 obtain ⟨x5,rfl,_⟩:=sh_int h5
 obtain ⟨x6,rfl,z6,y6⟩:=sh_RmS h6
 obtain ⟨x7,rfl,z7⟩:=sh_LI h7
 exact ⟨⟨⟨x0,x1,x2,x3,x4,x5⟩,x6,x7⟩,rfl,⟨⟨z6,y6⟩,z7⟩⟩
def ok_EqMl (x:Ml × Ml):Prop:=okq_RmS x.1.rooms∧okq_LI x.1.log
def ea_EqMl (x:Ml × Ml):List Arg:=[aR x.1.cs,aR x.2.cs]
def f_EqMl (x:Ml × Ml):Bool:=decide (x.1=x.2)
noncomputable def e_EqMl:Ent:=ent [] ok_EqMl ea_EqMl (erB 2) f_EqMl
theorem ea_EqMl_inj (x y:Ml × Ml) (h:ea_EqMl x=ea_EqMl y):x=y:=by
 obtain ⟨l1,r1⟩:=x
 obtain ⟨l2,r2⟩:=y
 simp only [ea_EqMl,List.cons.injEq,and_true,true_and] at h
 obtain ⟨e0,e1⟩:=h
 obtain rfl:=Ml.cs_ext (aR_inj e0)
 obtain rfl:=Ml.cs_ext (aR_inj e1)
 rfl
theorem dm_EqMl {l:Ml} {r:Ml} (h:ok_EqMl (l,r)):dom ok_EqMl ea_EqMl [(wMl l),(wMl r)]=true:=dom_ea (ea:=ea_EqMl) (x:=(l,r)) h
theorem iv_EqMl {l:Ml} {r:Ml} (h:ok_EqMl (l,r)):inv ok_EqMl ea_EqMl [(wMl l),(wMl r)]=(l,r):=inv_ea ea_EqMl_inj (x:=(l,r)) h
theorem d_EqMl (l:Ml) (r:Ml):f_EqMl (l,r)=decide (l=r):=rfl
def i_EqMl:Nat:=15
noncomputable abbrev F_EqMl:Func:=f15
def kp_EqMl:List (Nat × List Nat):=[(0,[8,9,12,13]),(1,[8,9,12,13,40]),(2,[16]),(3,[8,9,12,13,64]),(4,[16]),(5,[88]),(6,[16]),(7,[16])]
theorem pre_EqMl (l:Ml) (r:Ml) (n:Nat):body prog tb4 kp_EqMl n F_EqMl [aR l.cs,aR r.cs]=(bif l.c.1 != r.c.1 then some ([(false,[.tr true (T.bool false)])],[(false,[]),(false,[])]) else bif l.c.2 != r.c.2 then some ([(false,[.tr true (T.bool false)])],[(false,[]),(false,[])]) else bif l.c.3 != r.c.3 then some ([(false,[.tr true (T.bool false)])],[(false,[]),(false,[])]) else bif l.c.4 != r.c.4 then some ([(false,[.tr true (T.bool false)])],[(false,[]),(false,[])]) else bif l.c.5 != r.c.5 then some ([(false,[.tr true (T.bool false)])],[(false,[]),(false,[])]) else bif l.c.6 != r.c.6 then some ([(false,[.tr true (T.bool false)])],[(false,[]),(false,[])]) else gd (dom ok2_RmS ea2_RmS [(0,false,[C.tr false (eL 11 Rm.cs l.2)]),(0,false,[C.tr false (eL 11 Rm.cs r.2)])])<|bif !f_eqRmS (inv ok2_RmS ea2_RmS [(0,false,[C.tr false (eL 11 Rm.cs l.2)]),(0,false,[C.tr false (eL 11 Rm.cs r.2)])]) then some ([(false,[.tr true (T.bool false)])],[(false,[]),(false,[])]) else gd (dom ok2_LI ea2_LI [(0,false,[C.tr false (eL 1 rowI l.3)]),(0,false,[C.tr false (eL 1 rowI r.3)])])<|bif !f_eqLI (inv ok2_LI ea2_LI [(0,false,[C.tr false (eL 1 rowI l.3)]),(0,false,[C.tr false (eL 1 rowI r.3)])]) then some ([(false,[.tr true (T.bool false)])],[(false,[]),(false,[])]) else some ([(false,[.tr true (T.bool true)])],[(false,[]),(false,[])])):=by kernel_rfl
theorem body_EqMl (l:Ml) (r:Ml) (n:Nat) (h:ok_EqMl (l,r)):body prog tb4 kp_EqMl n F_EqMl (ea_EqMl (l,r))=some (erB 2 (f_EqMl (l,r))):=by
 have h0:okq_RmS l.rooms:=h.1
 have h1:okq_LI l.log:=h.2
 unfold ea_EqMl f_EqMl
 try dsimp only
 rw [pre_EqMl]
 simp only [rsx0,Ml.cs,int_ne,bool_ne,bool_eq,dm_eqRmS h0,iv_eqRmS h0,d_eqRmS,dm_eqLI h1,iv_eqLI h1,d_eqLI,chain]
 have hxy:(l.c.chunks=r.c.chunks∧l.c.size=r.c.size∧l.c.slots=r.c.slots∧l.c.tax=r.c.tax∧l.c.slice=r.c.slice∧l.c.gens=r.c.gens∧l.rooms=r.rooms∧l.log=r.log)↔l=r:=by
  rcases l with ⟨⟨x0,x1,x2,x3,x4,x5⟩,x6,x7⟩
  rcases r with ⟨⟨y0,y1,y2,y3,y4,y5⟩,y6,y7⟩
  simp [and_assoc]
 simp only [hxy]
 by_cases e:l=r
 ·simp only [e,decide_true,Bool.not_true,cond_false]
  rfl
 ·simp only [e,decide_false,Bool.not_false,cond_true]
  rfl
theorem s_EqMl:EntOk prog i_EqMl e_EqMl:=ent_ok ea_EqMl_inj fun x hx =>
 body_sound (φ:=tb4) (tabS_cons s_eqCf (tabS_cons s_eqRmS (tabS_cons s_eqLI tabS_nil))) mixed (kp:=kp_EqMl) (n:=0) func15 (c:=bodyOf F_EqMl) (by kernel_rfl) (body_EqMl x.1 x.2 (0) hx) (name_ok (by kernel_rfl))
end Go.Mach.F
namespace Go.Mach.F
open Go Go.Mach Go.Proofs.Tryz
--=set_option maxRecDepth 100000
theorem cntL_mem {α:Type} (c:α→Nat) {x:α}:∀ {l:List α},x∈l→c x≤cntL c l
 | y :: l,h=>by
  rcases List.mem_cons.1 h with rfl | h
  ·unfold cntL;omega
  ·have:=cntL_mem c h
   unfold cntL
   omega
theorem okn_LI {l:List Int} (h:(n_LI l:Int)≤1048576):ok_LI l∧okq_LI l:=by
 have:=lm
 have:=bm
 unfold n_LI at h
 exact ⟨by unfold ok_LI;omega,by unfold okq_LI;omega⟩
theorem okn_LB {l:List UInt8} (h:(n_LB l:Int)≤1048576):ok_LB l∧okq_LB l:=by
 have:=lm
 have:=bm
 unfold n_LB at h
 exact ⟨by unfold ok_LB;omega,by unfold okq_LB;omega⟩
theorem okn_HdS {l:List Hd} (h:(n_HdS l:Int)≤1048576):ok_HdS l∧okq_HdS l:=by
 have:=lm
 have:=bm
 unfold n_HdS at h
 exact ⟨⟨by omega,fun _ _=>trivial⟩,⟨by omega,fun _ _=>trivial⟩⟩
theorem okn_SfS {l:List Sf} (h:(n_SfS l:Int)≤1048576):ok_SfS l∧okq_SfS l:=by
 have:=lm
 have:=bm
 have e:n_SfS l=l.length+cntL n1_SfS l:=rfl
 exact ⟨⟨by omega,fun x hx=>(okn_LB (l:=x.b) (by have:=cntL_mem n1_SfS hx;have:n1_SfS x=n_LB x.b:=rfl;omega)).1⟩,⟨by omega,fun x hx=>(okn_LB (l:=x.b) (by have:=cntL_mem n1_SfS hx;have:n1_SfS x=n_LB x.b:=rfl;omega)).2⟩⟩
theorem okn_RmS {l:List Rm} (h:(n_RmS l:Int)≤1048576):ok_RmS l∧okq_RmS l:=by
 have:=lm
 have:=bm
 have e:n_RmS l=l.length+cntL n1_RmS l:=rfl
 exact ⟨⟨by omega,fun x hx=>⟨(okn_HdS (l:=x.kids) (by have:=cntL_mem n1_RmS hx;have:n1_RmS x=n_HdS x.kids+n_SfS x.things+n_LI x.tags:=rfl;omega)).1,(okn_SfS (l:=x.things) (by have:=cntL_mem n1_RmS hx;have:n1_RmS x=n_HdS x.kids+n_SfS x.things+n_LI x.tags:=rfl;omega)).1,(okn_LI (l:=x.tags) (by have:=cntL_mem n1_RmS hx;have:n1_RmS x=n_HdS x.kids+n_SfS x.things+n_LI x.tags:=rfl;omega)).1⟩⟩,⟨by omega,fun x hx=>⟨(okn_HdS (l:=x.kids) (by have:=cntL_mem n1_RmS hx;have:n1_RmS x=n_HdS x.kids+n_SfS x.things+n_LI x.tags:=rfl;omega)).2,(okn_SfS (l:=x.things) (by have:=cntL_mem n1_RmS hx;have:n1_RmS x=n_HdS x.kids+n_SfS x.things+n_LI x.tags:=rfl;omega)).2,(okn_LI (l:=x.tags) (by have:=cntL_mem n1_RmS hx;have:n1_RmS x=n_HdS x.kids+n_SfS x.things+n_LI x.tags:=rfl;omega)).2⟩⟩⟩
end Go.Mach.F
namespace Go.Mach.F
open Go Go.Mach Go.Proofs.Tryz Go.IntKind
--=set_option maxRecDepth 100000
def ok_ToMl (x:Ml):Prop:=ok_RmS x.rooms∧ok_LI x.log
def ea_ToMl (x:Ml):List Arg:=[aR x.cs]
def f_ToMl (x:Ml):Ml:=x
noncomputable def e_ToMl:Ent:=ent [] ok_ToMl ea_ToMl (fun l=>erR 1 l.cs) f_ToMl
theorem ea_ToMl_inj (x y:Ml) (h:ea_ToMl x=ea_ToMl y):x=y:=by
 simp only [ea_ToMl,List.cons.injEq,and_true,true_and] at h
 exact Ml.cs_ext (aR_inj h)
theorem dm_ToMl {l:Ml} (h:ok_ToMl l):dom ok_ToMl ea_ToMl [(wMl l)]=true:=dom_ea (ea:=ea_ToMl) (x:=l) h
theorem iv_ToMl {l:Ml} (h:ok_ToMl l):inv ok_ToMl ea_ToMl [(wMl l)]=l:=inv_ea ea_ToMl_inj (x:=l) h
theorem d_ToMl (l:Ml):f_ToMl l=l:=rfl
def i_ToMl:Nat:=11
noncomputable abbrev F_ToMl:Func:=f11
def kp_ToMl:List (Nat × List Nat):=[(0,[4,5,8,9,12,13,64]),(1,[4,5,8,9,12,13,64]),(2,[4,5,8,9,12,13,64]),(3,[4,5,8,9,12,13,64]),(4,[8,9,12,13,64]),(5,[8,9,12,13,64])]
theorem pre_ToMl (l:Ml) (n:Nat):body prog tb3 kp_ToMl n F_ToMl [aR l.cs]=(gd (dom ok_RmS ea_RmS [(0,false,[C.tr false (eL 11 Rm.cs l.2)])])<|gd ((inv ok_RmS ea_RmS [(0,false,[C.tr false (eL 11 Rm.cs l.2)])]).length.ble (inv ok_RmS ea_RmS [(0,false,[C.tr false (eL 11 Rm.cs l.2)])]).length&&true)<|gd (dom ok_LI ea_LI [(0,false,[C.tr false (eL 1 rowI l.3)])])<|gd ((inv ok_LI ea_LI [(0,false,[C.tr false (eL 1 rowI l.3)])]).length.ble (inv ok_LI ea_LI [(0,false,[C.tr false (eL 1 rowI l.3)])]).length&&true)<|gd ((inv ok_RmS ea_RmS [(0,false,[C.tr false (eL 11 Rm.cs l.2)])]).length.ble (inv ok_RmS ea_RmS [(0,false,[C.tr false (eL 11 Rm.cs l.2)])]).length&&true)<|gd ((inv ok_LI ea_LI [(0,false,[C.tr false (eL 1 rowI l.3)])]).length.ble (inv ok_LI ea_LI [(0,false,[C.tr false (eL 1 rowI l.3)])]).length&&true)<|gd ((inv ok_RmS ea_RmS [(0,false,[C.tr false (eL 11 Rm.cs l.2)])]).length.ble (inv ok_RmS ea_RmS [(0,false,[C.tr false (eL 11 Rm.cs l.2)])]).length&&true)<|gd ((inv ok_LI ea_LI [(0,false,[C.tr false (eL 1 rowI l.3)])]).length.ble (inv ok_LI ea_LI [(0,false,[C.tr false (eL 1 rowI l.3)])]).length&&true)<|some ([(true,[.tr true (T.int i64 l.c.1),.tr true (T.int i64 l.c.2),.tr true (T.int i64 l.c.3),.tr true (T.int i64 l.c.4),.tr true (T.int i64 l.c.5),.tr true (T.int i64 l.c.6),.tr true (.arr (11) ((inv ok_RmS ea_RmS [(0,false,[C.tr false (eL 11 Rm.cs l.2)])]).length) ((eL 11 Rm.cs (inv ok_RmS ea_RmS [(0,false,[C.tr false (eL 11 Rm.cs l.2)])])).fn)),.tr true (.arr (1) ((inv ok_LI ea_LI [(0,false,[C.tr false (eL 1 rowI l.3)])]).length) (atL rowI (inv ok_LI ea_LI [(0,false,[C.tr false (eL 1 rowI l.3)])])))])],[(false,[])])):=by kernel_rfl
theorem body_ToMl (l:Ml) (n:Nat) (h:ok_ToMl l):body prog tb3 kp_ToMl n F_ToMl (ea_ToMl l)=some (erR 1 l.cs):=by
 have h0:ok_RmS l.rooms:=h.1
 have h1:ok_LI l.log:=h.2
 unfold ea_ToMl
 rw [pre_ToMl]
 simp only [rsx0,Ml.cs,dm_toRmS h0,iv_toRmS h0,dm_toLI h1,iv_toLI h1,cut_all]
 rfl
theorem s_ToMl:EntOk prog i_ToMl e_ToMl:=ent_ok ea_ToMl_inj fun x hx =>
 body_sound (φ:=tb3) (tabS_cons s_toCf (tabS_cons s_toRmS (tabS_cons s_toLI tabS_nil))) mixed (kp:=kp_ToMl) (n:=0) func11 (c:=bodyOf F_ToMl) (by kernel_rfl) (body_ToMl x 0 hx) (name_ok (by kernel_rfl))
def okq_Ml (l:Ml):Prop:=okq_RmS l.rooms∧okq_LI l.log
def n_Ml (l:Ml):Nat:=n_RmS l.rooms+n_LI l.log
def ok_SzMl (x:Ml × Int):Prop:=z_Ml x.1∧0≤x.2∧x.2≤LM
def ea_SzMl (x:Ml × Int):List Arg:=[aR x.1.cs,aI x.2]
def f_SzMl (x:Ml × Int):Int:=if (n_Ml x.1:Int)≤x.2 then x.2 - n_Ml x.1 else -1
noncomputable def e_SzMl:Ent:=ent [] ok_SzMl ea_SzMl (erI 2) f_SzMl
theorem ea_SzMl_inj (x y:Ml × Int) (h:ea_SzMl x=ea_SzMl y):x=y:=by
 obtain ⟨l1,k1⟩:=x
 obtain ⟨l2,k2⟩:=y
 simp only [ea_SzMl,List.cons.injEq,and_true,true_and] at h
 obtain ⟨e0,e1⟩:=h
 obtain rfl:=Ml.cs_ext (aR_inj e0)
 obtain rfl:=aI_inj e1
 rfl
theorem dm_SzMl {l:Ml} {k:Int} (h:ok_SzMl (l,k)):dom ok_SzMl ea_SzMl [(wMl l),(0,false,[C.tr false (T.int i64 k)])]=true:=dom_ea (ea:=ea_SzMl) (x:=(l,k)) h
theorem iv_SzMl {l:Ml} {k:Int} (h:ok_SzMl (l,k)):inv ok_SzMl ea_SzMl [(wMl l),(0,false,[C.tr false (T.int i64 k)])]=(l,k):=inv_ea ea_SzMl_inj (x:=(l,k)) h
def i_SzMl:Nat:=7
noncomputable abbrev F_SzMl:Func:=f7
def kp_SzMl:List (Nat × List Nat):=[(0,[4,8,9]),(1,[4,8,9]),(2,[4,8,9,40]),(3,[16]),(4,[4]),(5,[4,64]),(6,[16]),(7,[16])]
theorem pre_SzMl (l:Ml) (k:Int) (n:Nat):body prog tb5 kp_SzMl n F_SzMl [aR l.cs,aI k]=(gd (dom okzz_RmS eaz_RmS [(0,false,[C.tr false (eL 11 Rm.cs l.2)]),(0,false,[C.tr false (T.int i64 k)])])<|bif decide (f_szRmS (inv okzz_RmS eaz_RmS [(0,false,[C.tr false (eL 11 Rm.cs l.2)]),(0,false,[C.tr false (T.int i64 k)])]) < 0) then some ([(false,[.tr true (T.int i64 (-1))])],[(false,[]),(false,[])]) else bif decide (i64.wrap (f_szRmS (inv okzz_RmS eaz_RmS [(0,false,[C.tr false (eL 11 Rm.cs l.2)]),(0,false,[C.tr false (T.int i64 k)])]) - (↑l.3.length:Int)) < 0) then some ([(false,[.tr true (T.int i64 (-1))])],[(false,[]),(false,[])]) else bif decide (i64.wrap (f_szRmS (inv okzz_RmS eaz_RmS [(0,false,[C.tr false (eL 11 Rm.cs l.2)]),(0,false,[C.tr false (T.int i64 k)])]) - (↑l.3.length:Int)) < 0) then some ([(false,[.tr true (T.int i64 (-1))])],[(false,[]),(false,[])]) else some ([(false,[.tr true (T.int i64 (i64.wrap (f_szRmS (inv okzz_RmS eaz_RmS [(0,false,[C.tr false (eL 11 Rm.cs l.2)]),(0,false,[C.tr false (T.int i64 k)])]) - (↑l.3.length:Int))))])],[(false,[]),(false,[])])):=by kernel_rfl
theorem body_SzMl (l:Ml) (k:Int) (n:Nat) (h:ok_SzMl (l,k)):body prog tb5 kp_SzMl n F_SzMl (ea_SzMl (l,k))=some (erI 2 (f_SzMl (l,k))):=by
 have hzm:=zm
 have hlm:=lm
 obtain ⟨hz,hk0,hk1⟩:=h
 dsimp only at hz hk0 hk1
 have z0:okz_RmS l.rooms:=hz.1
 have z1:okz_LI l.log:=hz.2
 have hn:n_Ml l=n_RmS l.rooms+l.log.length:=rfl
 unfold ea_SzMl f_SzMl
 dsimp only
 rw [pre_SzMl]
 have y0:okzz_RmS (l.rooms,k):=⟨z0,by dsimp only;omega,by dsimp only;omega⟩
 simp only [rsx0,Ml.cs,dm_szRmS y0,iv_szRmS y0]
 by_cases e0:(n_RmS l.rooms:Int)≤k
 case neg =>
  simp only [n_szRmS e0]
  rw [if_neg (by omega)]
  simp only [decide_eq_true (show (-1:Int) < 0 by omega),cond_true]
  rfl
 simp only [y_szRmS e0]
 simp (disch:=omega) only [decide_eq_false (show ¬ k - (n_RmS l.rooms:Int) < 0 by omega),cond_false,wrapI]
 have y1:l.log.length≤ZM:=z1
 try simp (disch:=omega) only [wrapI]
 by_cases e1:k - (n_RmS l.rooms:Int) - (l.log.length:Int) < 0
 ·rw [if_neg (by omega)]
  simp only [decide_eq_true e1,cond_true]
  rfl
 simp (disch:=omega) only [decide_eq_false e1,cond_false,wrapI]
 rw [if_pos (by omega),show k - (n_Ml l:Int)=k - (n_RmS l.rooms:Int) - (l.log.length:Int) by omega]
 rfl
theorem s_SzMl:EntOk prog i_SzMl e_SzMl:=ent_ok ea_SzMl_inj fun x hx =>
 body_sound (φ:=tb5) (tabS_cons s_szRmS (tabS_cons s_szLI tabS_nil)) mixed (kp:=kp_SzMl) (n:=0) func7 (c:=bodyOf F_SzMl) (by kernel_rfl) (body_SzMl x.1 x.2 (0) hx) (name_ok (by kernel_rfl))
theorem y_SzMl {l:Ml} {k:Int} (h:(n_Ml l:Int)≤k):f_SzMl (l,k)=k - n_Ml l:=if_pos h
theorem n_SzMl {l:Ml} {k:Int} (h:¬ (n_Ml l:Int)≤k):f_SzMl (l,k)=-1:=if_neg h
theorem okn_Ml {l:Ml} (h:(n_Ml l:Int)≤1048576):ok_ToMl l∧okq_Ml l:=⟨⟨(okn_RmS (l:=l.rooms) (by have:n_Ml l=n_RmS l.rooms+n_LI l.log:=rfl;omega)).1,(okn_LI (l:=l.log) (by have:n_Ml l=n_RmS l.rooms+n_LI l.log:=rfl;omega)).1⟩,⟨(okn_RmS (l:=l.rooms) (by have:n_Ml l=n_RmS l.rooms+n_LI l.log:=rfl;omega)).2,(okn_LI (l:=l.log) (by have:n_Ml l=n_RmS l.rooms+n_LI l.log:=rfl;omega)).2⟩⟩
end Go.Mach.F
namespace Go.Mach.F
open Go Go.Mach Go.Proofs.Tryz
--=set_option maxRecDepth 100000
def i_mkMl:Nat:=18
noncomputable abbrev F_mkMl:Func:=f18
def kp_mkMl:List (Nat × List Nat):=[(0,[4,8,9,2]),(1,[4,8,9,2]),(2,[4,2]),(3,[16,2])]
noncomputable def e_mkMl:Ent:=inl [1,0] prog (tabS [(i_mkRmS,e_mkRmS),(i_mkLI,e_mkLI)]) kp_mkMl 0 F_mkMl
theorem s_mkMl:EntOk prog i_mkMl e_mkMl:=inl_ok (tabS_cons s_mkRmS (tabS_cons s_mkLI tabS_nil)) mixed (c:=bodyOf F_mkMl) func18 (by kernel_rfl) (name_ok (by kernel_rfl))
end Go.Mach.F
namespace Go.Mach.F
open Go Go.Mach Go.Proofs.Tryz Go.IntKind
--=set_option maxRecDepth 100000
def ok_hdMl (x:Ml × Int):Prop:=okh_RmS (x.1.rooms,x.2)∧okh_LI (x.1.log,x.2+cntL c1_RmS x.1.rooms)
def ea_hdMl (x:Ml × Int):List Arg:=[aR x.1.cs,aI x.2]
def f_hdMl (x:Ml × Int):Int:=(if x.1.rooms=mk_RmS x.1.rooms (x.2) then (if x.1.log=mk_LI x.1.log (x.2+cntL c1_RmS x.1.rooms) then x.2+cntL c1_RmS x.1.rooms+cntL c1_LI x.1.log else -1) else -1)
noncomputable def e_hdMl:Ent:=ent [] ok_hdMl ea_hdMl (erI 2) f_hdMl
theorem ea_hdMl_inj (x y:Ml × Int) (h:ea_hdMl x=ea_hdMl y):x=y:=by
 obtain ⟨l1,k1⟩:=x
 obtain ⟨l2,k2⟩:=y
 simp only [ea_hdMl,List.cons.injEq,and_true,true_and] at h
 obtain ⟨e0,e1⟩:=h
 obtain rfl:=Ml.cs_ext (aR_inj e0)
 obtain rfl:=aI_inj e1
 rfl
theorem dm_hdMl {l:Ml} {k:Int} (h:ok_hdMl (l,k)):dom ok_hdMl ea_hdMl [(wMl l),(0,false,[C.tr false (T.int i64 k)])]=true:=dom_ea (ea:=ea_hdMl) (x:=(l,k)) h
theorem iv_hdMl {l:Ml} {k:Int} (h:ok_hdMl (l,k)):inv ok_hdMl ea_hdMl [(wMl l),(0,false,[C.tr false (T.int i64 k)])]=(l,k):=inv_ea ea_hdMl_inj (x:=(l,k)) h
def i_hdMl:Nat:=21
noncomputable abbrev F_hdMl:Func:=f21
def kp_hdMl:List (Nat × List Nat):=[(0,[4,8,9]),(1,[4,8,9]),(2,[4,8,9,40]),(3,[16]),(4,[4]),(5,[4,64]),(6,[16]),(7,[16])]
noncomputable abbrev tb6:Sems:=tabS [(i_hdRmS,e_hdRmS),(i_hdLI,e_hdLI)]
theorem pre_hdMl (l:Ml) (k:Int) (n:Nat):body prog tb6 kp_hdMl n F_hdMl [aR l.cs,aI k]=(entK okh_RmS eah_RmS (f_hdRmS) [(0,false,[C.tr false (eL 11 Rm.cs l.2)]),(0,false,[C.tr false (T.int i64 k)])] fun (r1:Int)=>bif decide (r1 < 0) then some ([(false,[.tr true (T.int i64 (-1))])],[(false,[]),(false,[])]) else entK okh_LI eah_LI (f_hdLI) [(0,false,[C.tr false (eL 1 rowI l.3)]),(0,false,[C.tr false (T.int i64 r1)])] fun (r2:Int)=>bif decide (r2 < 0) then some ([(false,[.tr true (T.int i64 (-1))])],[(false,[]),(false,[])]) else some ([(false,[.tr true (T.int i64 r2)])],[(false,[]),(false,[])])):=by kernel_rfl
theorem body_hdMl (l:Ml) (k:Int) (n:Nat) (h:ok_hdMl (l,k)):body prog tb6 kp_hdMl n F_hdMl (ea_hdMl (l,k))=some (erI 2 (f_hdMl (l,k))):=by
 have hbm:=bm
 have y0:okh_RmS (l.rooms,k):=h.1
 have z0:=y0.2.1
 have w0:=y0.2.2
 dsimp only at z0 w0
 have y1:okh_LI (l.log,k+cntL c1_RmS l.rooms):=h.2
 have z1:=y1.2.1
 have w1:=y1.2.2
 dsimp only at z1 w1
 unfold ea_hdMl f_hdMl
 try dsimp only
 rw [pre_hdMl]
 simp only [rsx0,eL_T,Ml.cs]
 rw [entK_of (dm_hdRmS y0) (iv_hdRmS y0)]
 by_cases e0:l.rooms=mk_RmS l.rooms (k)
 case neg =>
  simp only [n_hdRmS e0,if_neg e0,decide_eq_true (show (-1:Int) < 0 by omega),cond_true]
  rfl
 rw [y_hdRmS e0,if_pos e0]
 simp only [rsx0,decide_eq_false (show ¬ k+(cntL c1_RmS l.rooms:Int) < 0 by omega),cond_false]
 rw [entK_of (dm_hdLI y1) (iv_hdLI y1)]
 by_cases e1:l.log=mk_LI l.log (k+cntL c1_RmS l.rooms)
 case neg =>
  simp only [n_hdLI e1,if_neg e1,decide_eq_true (show (-1:Int) < 0 by omega),cond_true]
  rfl
 rw [y_hdLI e1,if_pos e1]
 simp only [rsx0,decide_eq_false (show ¬ k+cntL c1_RmS l.rooms+(cntL c1_LI l.log:Int) < 0 by omega),cond_false]
 try rfl
theorem s_hdMl:EntOk prog i_hdMl e_hdMl:=ent_ok ea_hdMl_inj fun x hx =>
 body_sound (φ:=tb6) (tabS_cons s_hdRmS (tabS_cons s_hdLI tabS_nil)) mixed (kp:=kp_hdMl) (n:=0) func21 (c:=bodyOf F_hdMl) (by kernel_rfl) (body_hdMl x.1 x.2 (0) hx) (name_ok (by kernel_rfl))
end Go.Mach.F
namespace Go.Mach.F
open Go Go.Mach Go.Proofs.Tryz Go.IntKind
--=set_option maxRecDepth 100000
def i_eqRf:Nat:=70
noncomputable abbrev F_eqRf:Func:=f70
def kp_eqRf:List (Nat × List Nat):=[(0,[8,9,12,13]),(1,[8,9,12,13,40]),(2,[16]),(3,[8,9,12,13,60]),(4,[16]),(5,[80]),(6,[16]),(7,[16])]
noncomputable def e_eqRf:Ent:=inl [] prog (tabS [(i_eqHd,e_eqHd)]) kp_eqRf 0 F_eqRf
theorem s_eqRf:EntOk prog i_eqRf e_eqRf:=inl_ok (tabS_cons s_eqHd tabS_nil) mixed (c:=bodyOf F_eqRf) func70 (by kernel_rfl) (name_ok (by kernel_rfl))
def z_An (x:An):Prop:=okz_LB x.b
theorem An.cs_inj (x y:An) (h:∀ k,x.cs.getD k .hole=y.cs.getD k .hole):x=y:=by
 have h0:=h 0;have h1:=h 1;have h2:=h 2;have h3:=h 3;have h4:=h 4;have h5:=h 5;have h6:=h 6;have h7:=h 7;have h8:=h 8;have h9:=h 9;have h10:=h 10
 rcases x with ⟨x0,⟨x1,x2⟩,⟨⟨x3,x4⟩,x5,x6⟩,x7,x8,x9,x10⟩
 rcases y with ⟨y0,⟨y1,y2⟩,⟨⟨y3,y4⟩,y5,y6⟩,y7,y8,y9,y10⟩
 simp only [An.cs,List.getD_cons_zero,List.getD_cons_succ,T.int.injEq,T.bool.injEq,true_and] at h0 h1 h2 h3 h4 h5 h6 h7 h8 h9 h10
 replace h7:=eB_inj h7
 subst h0;subst h1;subst h2;subst h3;subst h4;subst h5;subst h6;subst h7;subst h8;subst h9;subst h10
 rfl
theorem An.cs_ext {x y:An} (h:x.cs=y.cs):x=y:=An.cs_inj x y fun k=>by rw [h]
abbrev shAn:List Sh:=[.int .i64,.int .i64,.int .i64,.int .i64,.int .i64,.int .i64,.int .i64,.arr [.int .u8],.int .i64,.int .i64,.int .i64]
theorem sh_An {ts:List T} (hh:ShTs ts shAn):∃ x:An,ts=x.cs∧z_An x:=by
 obtain ⟨t0,ts,rfl,h0,hh⟩:=shs_cons hh
 obtain ⟨t1,ts,rfl,h1,hh⟩:=shs_cons hh
 obtain ⟨t2,ts,rfl,h2,hh⟩:=shs_cons hh
 obtain ⟨t3,ts,rfl,h3,hh⟩:=shs_cons hh
 obtain ⟨t4,ts,rfl,h4,hh⟩:=shs_cons hh
 obtain ⟨t5,ts,rfl,h5,hh⟩:=shs_cons hh
 obtain ⟨t6,ts,rfl,h6,hh⟩:=shs_cons hh
 obtain ⟨t7,ts,rfl,h7,hh⟩:=shs_cons hh
 obtain ⟨t8,ts,rfl,h8,hh⟩:=shs_cons hh
 obtain ⟨t9,ts,rfl,h9,hh⟩:=shs_cons hh
 obtain ⟨t10,ts,rfl,h10,hh⟩:=shs_cons hh
 obtain rfl:=shs_nil hh
 obtain ⟨x0,rfl,_⟩:=sh_int h0
 obtain ⟨x1,rfl,_⟩:=sh_int h1
 obtain ⟨x2,rfl,_⟩:=sh_int h2
 obtain ⟨x3,rfl,_⟩:=sh_int h3
 obtain ⟨x4,rfl,_⟩:=sh_int h4
 obtain ⟨x5,rfl,_⟩:=sh_int h5
 obtain ⟨x6,rfl,_⟩:=sh_int h6
 obtain ⟨x7,rfl,z7⟩:=sh_LB h7
 obtain ⟨x8,rfl,_⟩:=sh_int h8
 obtain ⟨x9,rfl,_⟩:=sh_int h9
 obtain ⟨x10,rfl,_⟩:=sh_int h10
 exact ⟨⟨x0,⟨x1,x2⟩,⟨⟨x3,x4⟩,x5,x6⟩,x7,x8,x9,x10⟩,rfl,z7⟩
def ok_ToAn (x:An):Prop:=ok_LB x.b
def ea_ToAn (x:An):List Arg:=[aR x.cs]
def f_ToAn (x:An):An:=x
noncomputable def e_ToAn:Ent:=ent [] ok_ToAn ea_ToAn (fun l=>erR 1 l.cs) f_ToAn
theorem ea_ToAn_inj (x y:An) (h:ea_ToAn x=ea_ToAn y):x=y:=by
 simp only [ea_ToAn,List.cons.injEq,and_true,true_and] at h
 exact An.cs_ext (aR_inj h)
theorem dm_ToAn {l:An} (h:ok_ToAn l):dom ok_ToAn ea_ToAn [(wAn l)]=true:=dom_ea (ea:=ea_ToAn) (x:=l) h
theorem iv_ToAn {l:An} (h:ok_ToAn l):inv ok_ToAn ea_ToAn [(wAn l)]=l:=inv_ea ea_ToAn_inj (x:=l) h
theorem d_ToAn (l:An):f_ToAn l=l:=rfl
def i_ToAn:Nat:=13
noncomputable abbrev F_ToAn:Func:=f13
def kp_ToAn:List (Nat × List Nat):=[(0,[4,5,8,9,12,13,112]),(1,[4,5,8,9,12,13,112]),(2,[4,5,8,9,12,13,112]),(3,[4,5,8,9,12,13,112]),(4,[4,5,8,9,12,13,112]),(5,[4,5,8,9,12,13,112]),(6,[4,5,8,9,12,13,112]),(7,[4,5,8,9,12,13,112]),(8,[8,9,12,13,112]),(9,[8,9,12,13,112])]
noncomputable abbrev tb7:Sems:=tabS [(i_toHd,e_toHd),(i_toRf,e_toRf),(i_toLB,e_toLB)]
theorem pre_ToAn (l:An) (n:Nat):body prog tb7 kp_ToAn n F_ToAn [aR l.cs]=(gd (dom ok_LB ea_LB [(0,false,[C.tr false (eL 1 rowB l.4)])])<|gd ((inv ok_LB ea_LB [(0,false,[C.tr false (eL 1 rowB l.4)])]).length.ble (inv ok_LB ea_LB [(0,false,[C.tr false (eL 1 rowB l.4)])]).length&&true)<|gd ((inv ok_LB ea_LB [(0,false,[C.tr false (eL 1 rowB l.4)])]).length.ble (inv ok_LB ea_LB [(0,false,[C.tr false (eL 1 rowB l.4)])]).length&&true)<|gd ((inv ok_LB ea_LB [(0,false,[C.tr false (eL 1 rowB l.4)])]).length.ble (inv ok_LB ea_LB [(0,false,[C.tr false (eL 1 rowB l.4)])]).length&&true)<|some ([(true,[.tr true (T.int i64 l.1),.tr true (T.int i64 l.h.1),.tr true (T.int i64 l.h.2),.tr true (T.int i64 l.r.h.1),.tr true (T.int i64 l.r.h.2),.tr true (T.int i64 l.r.2),.tr true (T.int i64 l.r.3),.tr true (.arr (1) ((inv ok_LB ea_LB [(0,false,[C.tr false (eL 1 rowB l.4)])]).length) (atL rowB (inv ok_LB ea_LB [(0,false,[C.tr false (eL 1 rowB l.4)])]))),.tr true (T.int i64 l.5),.tr true (T.int i64 l.6),.tr true (T.int i64 l.7)])],[(false,[])])):=by kernel_rfl
theorem body_ToAn (l:An) (n:Nat) (h:ok_ToAn l):body prog tb7 kp_ToAn n F_ToAn (ea_ToAn l)=some (erR 1 l.cs):=by
 have h0:ok_LB l.b:=h
 unfold ea_ToAn
 rw [pre_ToAn]
 simp only [rsx0,An.cs,dm_toLB h0,iv_toLB h0,cut_all]
 rfl
theorem s_ToAn:EntOk prog i_ToAn e_ToAn:=ent_ok ea_ToAn_inj fun x hx =>
 body_sound (φ:=tb7) (tabS_cons s_toHd (tabS_cons s_toRf (tabS_cons s_toLB tabS_nil))) mixed (kp:=kp_ToAn) (n:=0) func13 (c:=bodyOf F_ToAn) (by kernel_rfl) (body_ToAn x 0 hx) (name_ok (by kernel_rfl))
def okq_An (l:An):Prop:=okq_LB l.b
def n_An (l:An):Nat:=n_LB l.b
def ok_SzAn (x:An × Int):Prop:=z_An x.1∧0≤x.2∧x.2≤LM
def ea_SzAn (x:An × Int):List Arg:=[aR x.1.cs,aI x.2]
def f_SzAn (x:An × Int):Int:=if (n_An x.1:Int)≤x.2 then x.2 - n_An x.1 else -1
noncomputable def e_SzAn:Ent:=ent [] ok_SzAn ea_SzAn (erI 2) f_SzAn
theorem ea_SzAn_inj (x y:An × Int) (h:ea_SzAn x=ea_SzAn y):x=y:=by
 obtain ⟨l1,k1⟩:=x
 obtain ⟨l2,k2⟩:=y
 simp only [ea_SzAn,List.cons.injEq,and_true,true_and] at h
 obtain ⟨e0,e1⟩:=h
 obtain rfl:=An.cs_ext (aR_inj e0)
 obtain rfl:=aI_inj e1
 rfl
theorem dm_SzAn {l:An} {k:Int} (h:ok_SzAn (l,k)):dom ok_SzAn ea_SzAn [(wAn l),(0,false,[C.tr false (T.int i64 k)])]=true:=dom_ea (ea:=ea_SzAn) (x:=(l,k)) h
theorem iv_SzAn {l:An} {k:Int} (h:ok_SzAn (l,k)):inv ok_SzAn ea_SzAn [(wAn l),(0,false,[C.tr false (T.int i64 k)])]=(l,k):=inv_ea ea_SzAn_inj (x:=(l,k)) h
def i_SzAn:Nat:=9
noncomputable abbrev F_SzAn:Func:=f9
def kp_SzAn:List (Nat × List Nat):=[(0,[4,8,9]),(1,[4]),(2,[4,40]),(3,[16]),(4,[16])]
theorem pre_SzAn (l:An) (k:Int) (n:Nat):body prog (tabS [(i_szLB,e_szLB)]) kp_SzAn n F_SzAn [aR l.cs,aI k]=(bif decide (i64.wrap (k - (↑l.4.length:Int)) < 0) then some ([(false,[.tr true (T.int i64 (-1))])],[(false,[]),(false,[])]) else bif decide (i64.wrap (k - (↑l.4.length:Int)) < 0) then some ([(false,[.tr true (T.int i64 (-1))])],[(false,[]),(false,[])]) else some ([(false,[.tr true (T.int i64 (i64.wrap (k - (↑l.4.length:Int))))])],[(false,[]),(false,[])])):=by kernel_rfl
theorem body_SzAn (l:An) (k:Int) (n:Nat) (h:ok_SzAn (l,k)):body prog (tabS [(i_szLB,e_szLB)]) kp_SzAn n F_SzAn (ea_SzAn (l,k))=some (erI 2 (f_SzAn (l,k))):=by
 have hzm:=zm
 have hlm:=lm
 obtain ⟨hz,hk0,hk1⟩:=h
 dsimp only at hz hk0 hk1
 have z0:okz_LB l.b:=hz
 have hn:n_An l=l.b.length:=rfl
 unfold ea_SzAn f_SzAn
 dsimp only
 rw [pre_SzAn]
 have y0:l.b.length≤ZM:=z0
 try simp (disch:=omega) only [wrapI]
 by_cases e0:k - (l.b.length:Int) < 0
 ·rw [if_neg (by omega)]
  simp only [decide_eq_true e0,cond_true]
  rfl
 simp (disch:=omega) only [decide_eq_false e0,cond_false,wrapI]
 rw [if_pos (by omega),show k - (n_An l:Int)=k - (l.b.length:Int) by omega]
 rfl
theorem s_SzAn:EntOk prog i_SzAn e_SzAn:=ent_ok ea_SzAn_inj fun x hx =>
 body_sound (φ:=(tabS [(i_szLB,e_szLB)])) (tabS_cons s_szLB tabS_nil) mixed (kp:=kp_SzAn) (n:=0) func9 (c:=bodyOf F_SzAn) (by kernel_rfl) (body_SzAn x.1 x.2 (0) hx) (name_ok (by kernel_rfl))
theorem y_SzAn {l:An} {k:Int} (h:(n_An l:Int)≤k):f_SzAn (l,k)=k - n_An l:=if_pos h
theorem n_SzAn {l:An} {k:Int} (h:¬ (n_An l:Int)≤k):f_SzAn (l,k)=-1:=if_neg h
theorem okn_An {l:An} (h:(n_An l:Int)≤1048576):ok_ToAn l∧okq_An l:=⟨(okn_LB (l:=l.b) (by have:n_An l=n_LB l.b:=rfl;omega)).1,(okn_LB (l:=l.b) (by have:n_An l=n_LB l.b:=rfl;omega)).2⟩
def ok_EqAn (x:An × An):Prop:=okq_LB x.1.b
def ea_EqAn (x:An × An):List Arg:=[aR x.1.cs,aR x.2.cs]
def f_EqAn (x:An × An):Bool:=decide (x.1=x.2)
noncomputable def e_EqAn:Ent:=ent [] ok_EqAn ea_EqAn (erB 2) f_EqAn
theorem ea_EqAn_inj (x y:An × An) (h:ea_EqAn x=ea_EqAn y):x=y:=by
 obtain ⟨l1,r1⟩:=x
 obtain ⟨l2,r2⟩:=y
 simp only [ea_EqAn,List.cons.injEq,and_true,true_and] at h
 obtain ⟨e0,e1⟩:=h
 obtain rfl:=An.cs_ext (aR_inj e0)
 obtain rfl:=An.cs_ext (aR_inj e1)
 rfl
theorem dm_EqAn {l:An} {r:An} (h:ok_EqAn (l,r)):dom ok_EqAn ea_EqAn [(wAn l),(wAn r)]=true:=dom_ea (ea:=ea_EqAn) (x:=(l,r)) h
theorem iv_EqAn {l:An} {r:An} (h:ok_EqAn (l,r)):inv ok_EqAn ea_EqAn [(wAn l),(wAn r)]=(l,r):=inv_ea ea_EqAn_inj (x:=(l,r)) h
theorem d_EqAn (l:An) (r:An):f_EqAn (l,r)=decide (l=r):=rfl
def i_EqAn:Nat:=16
noncomputable abbrev F_EqAn:Func:=f16
def kp_EqAn:List (Nat × List Nat):=[(0,[8,9,12,13]),(1,[8,9,12,13,36]),(2,[16]),(3,[8,9,12,13,60]),(4,[16]),(5,[8,9,12,13,84]),(6,[16]),(7,[8,9,12,13,108]),(8,[16]),(9,[8,9,12,13,128]),(10,[16]),(11,[8,9,12,13,148]),(12,[16]),(13,[168]),(14,[16]),(15,[16])]
noncomputable abbrev tb8:Sems:=tabS [(i_eqHd,e_eqHd),(i_eqRf,e_eqRf),(i_eqLB,e_eqLB)]
theorem pre_EqAn (l:An) (r:An) (n:Nat):body prog tb8 kp_EqAn n F_EqAn [aR l.cs,aR r.cs]=(bif l.1 != r.1 then some ([(false,[.tr true (T.bool false)])],[(false,[]),(false,[])]) else bif l.h.1 != r.h.1 then some ([(false,[.tr true (T.bool false)])],[(false,[]),(false,[])]) else bif l.h.2 != r.h.2 then some ([(false,[.tr true (T.bool false)])],[(false,[]),(false,[])]) else bif l.r.h.1 != r.r.h.1 then some ([(false,[.tr true (T.bool false)])],[(false,[]),(false,[])]) else bif l.r.h.2 != r.r.h.2 then some ([(false,[.tr true (T.bool false)])],[(false,[]),(false,[])]) else bif l.r.2 != r.r.2 then some ([(false,[.tr true (T.bool false)])],[(false,[]),(false,[])]) else bif l.r.3 != r.r.3 then some ([(false,[.tr true (T.bool false)])],[(false,[]),(false,[])]) else gd (dom ok2_LB ea2_LB [(0,false,[C.tr false (eL 1 rowB l.4)]),(0,false,[C.tr false (eL 1 rowB r.4)])])<|bif !f_eqLB (inv ok2_LB ea2_LB [(0,false,[C.tr false (eL 1 rowB l.4)]),(0,false,[C.tr false (eL 1 rowB r.4)])]) then some ([(false,[.tr true (T.bool false)])],[(false,[]),(false,[])]) else bif l.5 != r.5 then some ([(false,[.tr true (T.bool false)])],[(false,[]),(false,[])]) else bif l.6 != r.6 then some ([(false,[.tr true (T.bool false)])],[(false,[]),(false,[])]) else bif l.7 != r.7 then some ([(false,[.tr true (T.bool false)])],[(false,[]),(false,[])]) else some ([(false,[.tr true (T.bool true)])],[(false,[]),(false,[])])):=by kernel_rfl
theorem body_EqAn (l:An) (r:An) (n:Nat) (h:ok_EqAn (l,r)):body prog tb8 kp_EqAn n F_EqAn (ea_EqAn (l,r))=some (erB 2 (f_EqAn (l,r))):=by
 have h0:okq_LB l.b:=h
 unfold ea_EqAn f_EqAn
 try dsimp only
 rw [pre_EqAn]
 simp only [rsx0,An.cs,int_ne,bool_ne,bool_eq,dm_eqLB h0,iv_eqLB h0,d_eqLB,chain]
 have hxy:(l.code=r.code∧l.h.slot=r.h.slot∧l.h.gen=r.h.gen∧l.r.h.slot=r.r.h.slot∧l.r.h.gen=r.r.h.gen∧l.r.ep=r.r.ep∧l.r.no=r.r.no∧l.b=r.b∧l.walk=r.walk∧l.tax=r.tax∧l.drain=r.drain)↔l=r:=by
  rcases l with ⟨x0,⟨x1,x2⟩,⟨⟨x3,x4⟩,x5,x6⟩,x7,x8,x9,x10⟩
  rcases r with ⟨y0,⟨y1,y2⟩,⟨⟨y3,y4⟩,y5,y6⟩,y7,y8,y9,y10⟩
  simp [and_assoc]
 simp only [hxy]
 by_cases e:l=r
 ·simp only [e,decide_true,Bool.not_true,cond_false]
  rfl
 ·simp only [e,decide_false,Bool.not_false,cond_true]
  rfl
theorem s_EqAn:EntOk prog i_EqAn e_EqAn:=ent_ok ea_EqAn_inj fun x hx =>
 body_sound (φ:=tb8) (tabS_cons s_eqHd (tabS_cons s_eqRf (tabS_cons s_eqLB tabS_nil))) mixed (kp:=kp_EqAn) (n:=0) func16 (c:=bodyOf F_EqAn) (by kernel_rfl) (body_EqAn x.1 x.2 (0) hx) (name_ok (by kernel_rfl))
def i_mkAn:Nat:=20
noncomputable abbrev F_mkAn:Func:=f20
def kp_mkAn:List (Nat × List Nat):=[(0,[4,8,9,2]),(1,[4,2]),(2,[16,2])]
noncomputable def e_mkAn:Ent:=inl [1,0] prog (tabS [(i_mkLB,e_mkLB)]) kp_mkAn 0 F_mkAn
theorem s_mkAn:EntOk prog i_mkAn e_mkAn:=inl_ok (tabS_cons s_mkLB tabS_nil) mixed (c:=bodyOf F_mkAn) func20 (by kernel_rfl) (name_ok (by kernel_rfl))
def z_Op1 (x:Op1):Prop:=okz_LB x.b
theorem Op1.cs_inj (x y:Op1) (h:∀ k,x.cs.getD k .hole=y.cs.getD k .hole):x=y:=by
 have h0:=h 0;have h1:=h 1;have h2:=h 2;have h3:=h 3;have h4:=h 4;have h5:=h 5;have h6:=h 6;have h7:=h 7;have h8:=h 8;have h9:=h 9
 rcases x with ⟨x0,⟨x1,x2⟩,⟨⟨x3,x4⟩,x5,x6⟩,x7,x8,x9⟩
 rcases y with ⟨y0,⟨y1,y2⟩,⟨⟨y3,y4⟩,y5,y6⟩,y7,y8,y9⟩
 simp only [Op1.cs,List.getD_cons_zero,List.getD_cons_succ,T.int.injEq,T.bool.injEq,true_and] at h0 h1 h2 h3 h4 h5 h6 h7 h8 h9
 replace h9:=eB_inj h9
 subst h0;subst h1;subst h2;subst h3;subst h4;subst h5;subst h6;subst h7;subst h8;subst h9
 rfl
theorem Op1.cs_ext {x y:Op1} (h:x.cs=y.cs):x=y:=Op1.cs_inj x y fun k=>by rw [h]
abbrev shOp1:List Sh:=[.int .i64,.int .i64,.int .i64,.int .i64,.int .i64,.int .i64,.int .i64,.int .i64,.int .i64,.arr [.int .u8]]
theorem sh_Op1 {ts:List T} (hh:ShTs ts shOp1):∃ x:Op1,ts=x.cs∧z_Op1 x:=by
 obtain ⟨t0,ts,rfl,h0,hh⟩:=shs_cons hh
 obtain ⟨t1,ts,rfl,h1,hh⟩:=shs_cons hh
 obtain ⟨t2,ts,rfl,h2,hh⟩:=shs_cons hh
 obtain ⟨t3,ts,rfl,h3,hh⟩:=shs_cons hh
 obtain ⟨t4,ts,rfl,h4,hh⟩:=shs_cons hh
 obtain ⟨t5,ts,rfl,h5,hh⟩:=shs_cons hh
 obtain ⟨t6,ts,rfl,h6,hh⟩:=shs_cons hh
 obtain ⟨t7,ts,rfl,h7,hh⟩:=shs_cons hh
 obtain ⟨t8,ts,rfl,h8,hh⟩:=shs_cons hh
 obtain ⟨t9,ts,rfl,h9,hh⟩:=shs_cons hh
 obtain rfl:=shs_nil hh
 obtain ⟨x0,rfl,_⟩:=sh_int h0
 obtain ⟨x1,rfl,_⟩:=sh_int h1
 obtain ⟨x2,rfl,_⟩:=sh_int h2
 obtain ⟨x3,rfl,_⟩:=sh_int h3
 obtain ⟨x4,rfl,_⟩:=sh_int h4
 obtain ⟨x5,rfl,_⟩:=sh_int h5
 obtain ⟨x6,rfl,_⟩:=sh_int h6
 obtain ⟨x7,rfl,_⟩:=sh_int h7
 obtain ⟨x8,rfl,_⟩:=sh_int h8
 obtain ⟨x9,rfl,z9⟩:=sh_LB h9
 exact ⟨⟨x0,⟨x1,x2⟩,⟨⟨x3,x4⟩,x5,x6⟩,x7,x8,x9⟩,rfl,z9⟩
def ok_ToOp1 (x:Op1):Prop:=ok_LB x.b
def ea_ToOp1 (x:Op1):List Arg:=[aR x.cs]
def f_ToOp1 (x:Op1):Op1:=x
noncomputable def e_ToOp1:Ent:=ent [] ok_ToOp1 ea_ToOp1 (fun l=>erR 1 l.cs) f_ToOp1
theorem ea_ToOp1_inj (x y:Op1) (h:ea_ToOp1 x=ea_ToOp1 y):x=y:=by
 simp only [ea_ToOp1,List.cons.injEq,and_true,true_and] at h
 exact Op1.cs_ext (aR_inj h)
theorem dm_ToOp1 {l:Op1} (h:ok_ToOp1 l):dom ok_ToOp1 ea_ToOp1 [(wOp1 l)]=true:=dom_ea (ea:=ea_ToOp1) (x:=l) h
theorem iv_ToOp1 {l:Op1} (h:ok_ToOp1 l):inv ok_ToOp1 ea_ToOp1 [(wOp1 l)]=l:=inv_ea ea_ToOp1_inj (x:=l) h
theorem d_ToOp1 (l:Op1):f_ToOp1 l=l:=rfl
def i_ToOp1:Nat:=12
noncomputable abbrev F_ToOp1:Func:=f12
def kp_ToOp1:List (Nat × List Nat):=[(0,[4,5,8,9,12,13,100]),(1,[4,5,8,9,12,13,100]),(2,[4,5,8,9,12,13,100]),(3,[4,5,8,9,12,13,100]),(4,[4,5,8,9,12,13,100]),(5,[4,5,8,9,12,13,100]),(6,[4,5,8,9,12,13,100]),(7,[8,9,12,13,100]),(8,[8,9,12,13,100])]
theorem pre_ToOp1 (l:Op1) (n:Nat):body prog tb7 kp_ToOp1 n F_ToOp1 [aR l.cs]=(gd (dom ok_LB ea_LB [(0,false,[C.tr false (eL 1 rowB l.6)])])<|gd ((inv ok_LB ea_LB [(0,false,[C.tr false (eL 1 rowB l.6)])]).length.ble (inv ok_LB ea_LB [(0,false,[C.tr false (eL 1 rowB l.6)])]).length&&true)<|gd ((inv ok_LB ea_LB [(0,false,[C.tr false (eL 1 rowB l.6)])]).length.ble (inv ok_LB ea_LB [(0,false,[C.tr false (eL 1 rowB l.6)])]).length&&true)<|gd ((inv ok_LB ea_LB [(0,false,[C.tr false (eL 1 rowB l.6)])]).length.ble (inv ok_LB ea_LB [(0,false,[C.tr false (eL 1 rowB l.6)])]).length&&true)<|some ([(true,[.tr true (T.int i64 l.1),.tr true (T.int i64 l.h.1),.tr true (T.int i64 l.h.2),.tr true (T.int i64 l.r.h.1),.tr true (T.int i64 l.r.h.2),.tr true (T.int i64 l.r.2),.tr true (T.int i64 l.r.3),.tr true (T.int i64 l.4),.tr true (T.int i64 l.5),.tr true (.arr (1) ((inv ok_LB ea_LB [(0,false,[C.tr false (eL 1 rowB l.6)])]).length) (atL rowB (inv ok_LB ea_LB [(0,false,[C.tr false (eL 1 rowB l.6)])])))])],[(false,[])])):=by kernel_rfl
theorem body_ToOp1 (l:Op1) (n:Nat) (h:ok_ToOp1 l):body prog tb7 kp_ToOp1 n F_ToOp1 (ea_ToOp1 l)=some (erR 1 l.cs):=by
 have h0:ok_LB l.b:=h
 unfold ea_ToOp1
 rw [pre_ToOp1]
 simp only [rsx0,Op1.cs,dm_toLB h0,iv_toLB h0,cut_all]
 rfl
theorem s_ToOp1:EntOk prog i_ToOp1 e_ToOp1:=ent_ok ea_ToOp1_inj fun x hx =>
 body_sound (φ:=tb7) (tabS_cons s_toHd (tabS_cons s_toRf (tabS_cons s_toLB tabS_nil))) mixed (kp:=kp_ToOp1) (n:=0) func12 (c:=bodyOf F_ToOp1) (by kernel_rfl) (body_ToOp1 x 0 hx) (name_ok (by kernel_rfl))
def okq_Op1 (l:Op1):Prop:=okq_LB l.b
def n_Op1 (l:Op1):Nat:=n_LB l.b
def ok_SzOp1 (x:Op1 × Int):Prop:=z_Op1 x.1∧0≤x.2∧x.2≤LM
def ea_SzOp1 (x:Op1 × Int):List Arg:=[aR x.1.cs,aI x.2]
def f_SzOp1 (x:Op1 × Int):Int:=if (n_Op1 x.1:Int)≤x.2 then x.2 - n_Op1 x.1 else -1
noncomputable def e_SzOp1:Ent:=ent [] ok_SzOp1 ea_SzOp1 (erI 2) f_SzOp1
theorem ea_SzOp1_inj (x y:Op1 × Int) (h:ea_SzOp1 x=ea_SzOp1 y):x=y:=by
 obtain ⟨l1,k1⟩:=x
 obtain ⟨l2,k2⟩:=y
 simp only [ea_SzOp1,List.cons.injEq,and_true,true_and] at h
 obtain ⟨e0,e1⟩:=h
 obtain rfl:=Op1.cs_ext (aR_inj e0)
 obtain rfl:=aI_inj e1
 rfl
theorem dm_SzOp1 {l:Op1} {k:Int} (h:ok_SzOp1 (l,k)):dom ok_SzOp1 ea_SzOp1 [(wOp1 l),(0,false,[C.tr false (T.int i64 k)])]=true:=dom_ea (ea:=ea_SzOp1) (x:=(l,k)) h
theorem iv_SzOp1 {l:Op1} {k:Int} (h:ok_SzOp1 (l,k)):inv ok_SzOp1 ea_SzOp1 [(wOp1 l),(0,false,[C.tr false (T.int i64 k)])]=(l,k):=inv_ea ea_SzOp1_inj (x:=(l,k)) h
def i_SzOp1:Nat:=8
noncomputable abbrev F_SzOp1:Func:=f8
def kp_SzOp1:List (Nat × List Nat):=[(0,[4,8,9]),(1,[4]),(2,[4,40]),(3,[16]),(4,[16])]
theorem pre_SzOp1 (l:Op1) (k:Int) (n:Nat):body prog (tabS [(i_szLB,e_szLB)]) kp_SzOp1 n F_SzOp1 [aR l.cs,aI k]=(bif decide (i64.wrap (k - (↑l.6.length:Int)) < 0) then some ([(false,[.tr true (T.int i64 (-1))])],[(false,[]),(false,[])]) else bif decide (i64.wrap (k - (↑l.6.length:Int)) < 0) then some ([(false,[.tr true (T.int i64 (-1))])],[(false,[]),(false,[])]) else some ([(false,[.tr true (T.int i64 (i64.wrap (k - (↑l.6.length:Int))))])],[(false,[]),(false,[])])):=by kernel_rfl
theorem body_SzOp1 (l:Op1) (k:Int) (n:Nat) (h:ok_SzOp1 (l,k)):body prog (tabS [(i_szLB,e_szLB)]) kp_SzOp1 n F_SzOp1 (ea_SzOp1 (l,k))=some (erI 2 (f_SzOp1 (l,k))):=by
 have hzm:=zm
 have hlm:=lm
 obtain ⟨hz,hk0,hk1⟩:=h
 dsimp only at hz hk0 hk1
 have z0:okz_LB l.b:=hz
 have hn:n_Op1 l=l.b.length:=rfl
 unfold ea_SzOp1 f_SzOp1
 dsimp only
 rw [pre_SzOp1]
 have y0:l.b.length≤ZM:=z0
 try simp (disch:=omega) only [wrapI]
 by_cases e0:k - (l.b.length:Int) < 0
 ·rw [if_neg (by omega)]
  simp only [decide_eq_true e0,cond_true]
  rfl
 simp (disch:=omega) only [decide_eq_false e0,cond_false,wrapI]
 rw [if_pos (by omega),show k - (n_Op1 l:Int)=k - (l.b.length:Int) by omega]
 rfl
theorem s_SzOp1:EntOk prog i_SzOp1 e_SzOp1:=ent_ok ea_SzOp1_inj fun x hx =>
 body_sound (φ:=(tabS [(i_szLB,e_szLB)])) (tabS_cons s_szLB tabS_nil) mixed (kp:=kp_SzOp1) (n:=0) func8 (c:=bodyOf F_SzOp1) (by kernel_rfl) (body_SzOp1 x.1 x.2 (0) hx) (name_ok (by kernel_rfl))
theorem y_SzOp1 {l:Op1} {k:Int} (h:(n_Op1 l:Int)≤k):f_SzOp1 (l,k)=k - n_Op1 l:=if_pos h
theorem n_SzOp1 {l:Op1} {k:Int} (h:¬ (n_Op1 l:Int)≤k):f_SzOp1 (l,k)=-1:=if_neg h
theorem okn_Op1 {l:Op1} (h:(n_Op1 l:Int)≤1048576):ok_ToOp1 l∧okq_Op1 l:=⟨(okn_LB (l:=l.b) (by have:n_Op1 l=n_LB l.b:=rfl;omega)).1,(okn_LB (l:=l.b) (by have:n_Op1 l=n_LB l.b:=rfl;omega)).2⟩
def ok_EqOp1 (x:Op1 × Op1):Prop:=okq_LB x.1.b
def ea_EqOp1 (x:Op1 × Op1):List Arg:=[aR x.1.cs,aR x.2.cs]
def f_EqOp1 (x:Op1 × Op1):Bool:=decide (x.1=x.2)
noncomputable def e_EqOp1:Ent:=ent [] ok_EqOp1 ea_EqOp1 (erB 2) f_EqOp1
theorem ea_EqOp1_inj (x y:Op1 × Op1) (h:ea_EqOp1 x=ea_EqOp1 y):x=y:=by
 obtain ⟨l1,r1⟩:=x
 obtain ⟨l2,r2⟩:=y
 simp only [ea_EqOp1,List.cons.injEq,and_true,true_and] at h
 obtain ⟨e0,e1⟩:=h
 obtain rfl:=Op1.cs_ext (aR_inj e0)
 obtain rfl:=Op1.cs_ext (aR_inj e1)
 rfl
theorem dm_EqOp1 {l:Op1} {r:Op1} (h:ok_EqOp1 (l,r)):dom ok_EqOp1 ea_EqOp1 [(wOp1 l),(wOp1 r)]=true:=dom_ea (ea:=ea_EqOp1) (x:=(l,r)) h
theorem iv_EqOp1 {l:Op1} {r:Op1} (h:ok_EqOp1 (l,r)):inv ok_EqOp1 ea_EqOp1 [(wOp1 l),(wOp1 r)]=(l,r):=inv_ea ea_EqOp1_inj (x:=(l,r)) h
theorem d_EqOp1 (l:Op1) (r:Op1):f_EqOp1 (l,r)=decide (l=r):=rfl
def i_EqOp1:Nat:=17
noncomputable abbrev F_EqOp1:Func:=f17
def kp_EqOp1:List (Nat × List Nat):=[(0,[8,9,12,13]),(1,[8,9,12,13,36]),(2,[16]),(3,[8,9,12,13,60]),(4,[16]),(5,[8,9,12,13,84]),(6,[16]),(7,[8,9,12,13,104]),(8,[16]),(9,[8,9,12,13,124]),(10,[16]),(11,[148]),(12,[16]),(13,[16])]
theorem pre_EqOp1 (l:Op1) (r:Op1) (n:Nat):body prog tb8 kp_EqOp1 n F_EqOp1 [aR l.cs,aR r.cs]=(bif l.1 != r.1 then some ([(false,[.tr true (T.bool false)])],[(false,[]),(false,[])]) else bif l.h.1 != r.h.1 then some ([(false,[.tr true (T.bool false)])],[(false,[]),(false,[])]) else bif l.h.2 != r.h.2 then some ([(false,[.tr true (T.bool false)])],[(false,[]),(false,[])]) else bif l.r.h.1 != r.r.h.1 then some ([(false,[.tr true (T.bool false)])],[(false,[]),(false,[])]) else bif l.r.h.2 != r.r.h.2 then some ([(false,[.tr true (T.bool false)])],[(false,[]),(false,[])]) else bif l.r.2 != r.r.2 then some ([(false,[.tr true (T.bool false)])],[(false,[]),(false,[])]) else bif l.r.3 != r.r.3 then some ([(false,[.tr true (T.bool false)])],[(false,[]),(false,[])]) else bif l.4 != r.4 then some ([(false,[.tr true (T.bool false)])],[(false,[]),(false,[])]) else bif l.5 != r.5 then some ([(false,[.tr true (T.bool false)])],[(false,[]),(false,[])]) else gd (dom ok2_LB ea2_LB [(0,false,[C.tr false (eL 1 rowB l.6)]),(0,false,[C.tr false (eL 1 rowB r.6)])])<|bif !f_eqLB (inv ok2_LB ea2_LB [(0,false,[C.tr false (eL 1 rowB l.6)]),(0,false,[C.tr false (eL 1 rowB r.6)])]) then some ([(false,[.tr true (T.bool false)])],[(false,[]),(false,[])]) else some ([(false,[.tr true (T.bool true)])],[(false,[]),(false,[])])):=by kernel_rfl
theorem body_EqOp1 (l:Op1) (r:Op1) (n:Nat) (h:ok_EqOp1 (l,r)):body prog tb8 kp_EqOp1 n F_EqOp1 (ea_EqOp1 (l,r))=some (erB 2 (f_EqOp1 (l,r))):=by
 have h0:okq_LB l.b:=h
 unfold ea_EqOp1 f_EqOp1
 try dsimp only
 rw [pre_EqOp1]
 simp only [rsx0,Op1.cs,int_ne,bool_ne,bool_eq,dm_eqLB h0,iv_eqLB h0,d_eqLB,chain]
 have hxy:(l.kind=r.kind∧l.h.slot=r.h.slot∧l.h.gen=r.h.gen∧l.r.h.slot=r.r.h.slot∧l.r.h.gen=r.r.h.gen∧l.r.ep=r.r.ep∧l.r.no=r.r.no∧l.n=r.n∧l.m=r.m∧l.b=r.b)↔l=r:=by
  rcases l with ⟨x0,⟨x1,x2⟩,⟨⟨x3,x4⟩,x5,x6⟩,x7,x8,x9⟩
  rcases r with ⟨y0,⟨y1,y2⟩,⟨⟨y3,y4⟩,y5,y6⟩,y7,y8,y9⟩
  simp [and_assoc]
 simp only [hxy]
 by_cases e:l=r
 ·simp only [e,decide_true,Bool.not_true,cond_false]
  rfl
 ·simp only [e,decide_false,Bool.not_false,cond_true]
  rfl
theorem s_EqOp1:EntOk prog i_EqOp1 e_EqOp1:=ent_ok ea_EqOp1_inj fun x hx =>
 body_sound (φ:=tb8) (tabS_cons s_eqHd (tabS_cons s_eqRf (tabS_cons s_eqLB tabS_nil))) mixed (kp:=kp_EqOp1) (n:=0) func17 (c:=bodyOf F_EqOp1) (by kernel_rfl) (body_EqOp1 x.1 x.2 (0) hx) (name_ok (by kernel_rfl))
def i_mkOp1:Nat:=19
noncomputable abbrev F_mkOp1:Func:=f19
def kp_mkOp1:List (Nat × List Nat):=[(0,[4,8,9,2]),(1,[4,2]),(2,[16,2])]
noncomputable def e_mkOp1:Ent:=inl [1,0] prog (tabS [(i_mkLB,e_mkLB)]) kp_mkOp1 0 F_mkOp1
theorem s_mkOp1:EntOk prog i_mkOp1 e_mkOp1:=inl_ok (tabS_cons s_mkLB tabS_nil) mixed (c:=bodyOf F_mkOp1) func19 (by kernel_rfl) (name_ok (by kernel_rfl))
end Go.Mach.F
namespace Go.Mach.F
open Go Go.Mach Go.Proofs.Tryz Go.IntKind
--=set_option maxRecDepth 100000
def ok_hdAn (x:An × Int):Prop:=okh_LB (x.1.b,x.2)
def ea_hdAn (x:An × Int):List Arg:=[aR x.1.cs,aI x.2]
def f_hdAn (x:An × Int):Int:=(if x.1.b=mk_LB x.1.b (x.2) then x.2+cntL c1_LB x.1.b else -1)
noncomputable def e_hdAn:Ent:=ent [] ok_hdAn ea_hdAn (erI 2) f_hdAn
theorem ea_hdAn_inj (x y:An × Int) (h:ea_hdAn x=ea_hdAn y):x=y:=by
 obtain ⟨l1,k1⟩:=x
 obtain ⟨l2,k2⟩:=y
 simp only [ea_hdAn,List.cons.injEq,and_true,true_and] at h
 obtain ⟨e0,e1⟩:=h
 obtain rfl:=An.cs_ext (aR_inj e0)
 obtain rfl:=aI_inj e1
 rfl
theorem dm_hdAn {l:An} {k:Int} (h:ok_hdAn (l,k)):dom ok_hdAn ea_hdAn [(wAn l),(0,false,[C.tr false (T.int i64 k)])]=true:=dom_ea (ea:=ea_hdAn) (x:=(l,k)) h
theorem iv_hdAn {l:An} {k:Int} (h:ok_hdAn (l,k)):inv ok_hdAn ea_hdAn [(wAn l),(0,false,[C.tr false (T.int i64 k)])]=(l,k):=inv_ea ea_hdAn_inj (x:=(l,k)) h
def i_hdAn:Nat:=22
noncomputable abbrev F_hdAn:Func:=f22
def kp_hdAn:List (Nat × List Nat):=[(0,[4,8,9]),(1,[4]),(2,[4,40]),(3,[16]),(4,[16])]
theorem pre_hdAn (l:An) (k:Int) (n:Nat):body prog (tabS [(i_hdLB,e_hdLB)]) kp_hdAn n F_hdAn [aR l.cs,aI k]=(entK okh_LB eah_LB (f_hdLB) [(0,false,[C.tr false (eL 1 rowB l.4)]),(0,false,[C.tr false (T.int i64 k)])] fun (r1:Int)=>bif decide (r1 < 0) then some ([(false,[.tr true (T.int i64 (-1))])],[(false,[]),(false,[])]) else some ([(false,[.tr true (T.int i64 r1)])],[(false,[]),(false,[])])):=by kernel_rfl
theorem body_hdAn (l:An) (k:Int) (n:Nat) (h:ok_hdAn (l,k)):body prog (tabS [(i_hdLB,e_hdLB)]) kp_hdAn n F_hdAn (ea_hdAn (l,k))=some (erI 2 (f_hdAn (l,k))):=by
 have hbm:=bm
 have y0:okh_LB (l.b,k):=h
 have z0:=y0.2.1
 have w0:=y0.2.2
 dsimp only at z0 w0
 unfold ea_hdAn f_hdAn
 try dsimp only
 rw [pre_hdAn]
 simp only [rsx0,eL_T,An.cs]
 rw [entK_of (dm_hdLB y0) (iv_hdLB y0)]
 by_cases e0:l.b=mk_LB l.b (k)
 case neg =>
  simp only [n_hdLB e0,if_neg e0,decide_eq_true (show (-1:Int) < 0 by omega),cond_true]
  rfl
 rw [y_hdLB e0,if_pos e0]
 simp only [rsx0,decide_eq_false (show ¬ k+(cntL c1_LB l.b:Int) < 0 by omega),cond_false]
 try rfl
theorem s_hdAn:EntOk prog i_hdAn e_hdAn:=ent_ok ea_hdAn_inj fun x hx =>
 body_sound (φ:=(tabS [(i_hdLB,e_hdLB)])) (tabS_cons s_hdLB tabS_nil) mixed (kp:=kp_hdAn) (n:=0) func22 (c:=bodyOf F_hdAn) (by kernel_rfl) (body_hdAn x.1 x.2 (0) hx) (name_ok (by kernel_rfl))
end Go.Mach.F
namespace Go.Mach
open Go Go.RowKit Go.Proofs
section
variable {P:Program}
/-- Cells of a block, some of them turned. -/
def spl (cur:Array Value) (o:Nat) (vs:List Value):Array Value:=(cur.toList.take o ++ vs ++ cur.toList.drop (o+vs.length)).toArray
theorem spl_size {cur:Array Value} {o:Nat} {vs:List Value} (h:o+vs.length≤cur.size):(spl cur o vs).size=cur.size:=by
 simp [spl]
 omega
theorem spl_get {cur:Array Value} {o:Nat} {vs:List Value} (h:o+vs.length≤cur.size) (j:Nat):(spl cur o vs)[j]?=if j < o then cur[j]? else if j < o+vs.length then vs[j - o]? else cur[j]?:=by
 have h1:(cur.toList.take o).length=o:=by simp;omega
 unfold spl
 rw [List.getElem?_toArray,List.append_assoc]
 by_cases a:j < o
 ·rw [if_pos a,List.getElem?_append_left (by omega),List.getElem?_take,if_pos a]
  simp
 ·rw [if_neg a,List.getElem?_append_right (by omega),h1]
  by_cases b:j < o+vs.length
  ·rw [if_pos b,List.getElem?_append_left (by omega)]
  ·rw [if_neg b,List.getElem?_append_right (by omega),List.getElem?_drop]
   simp
   congr 1
   omega
theorem run_copyR (w:World) (dT sT ty e e':TypeId) (sz:Nat) (hu:P.underlying dT=some (.slice e)) (hs:(P.info? e).map (·.size)=some sz)
  (g o dLen dCap:Nat) (cur:Array Value) (hg:w.heap[g]?=some (.cells cur e' (0,0))) (a:Addr) (sLen sCap k:Nat) (vs:List Value) (hk:Nat.min sLen dLen=k) (hl:vs.length=k * sz)
  (hsrc:∀ j v,vs[j]?=some v→w.cell? (a.add j)=some v) (hfit:o+vs.length≤cur.size) (h1:∀ v∈vs,v.oneCell'=true) :
  (Builtin.copy_ #[dT,sT] ty #[.slice (some ⟨g,o,none⟩) dLen dCap,.slice (some a) sLen sCap]).run P w=.ok (goInt k) (w.setRow g (spl cur o vs)):=by
 have hld:=run_firstCells_some (P:=P) w sz k a sLen sCap vs hl hsrc
 have hst:=run_storeCells_at P g o e' vs 0 cur w hg (by simpa using hfit) h1
 simp only [Nat.add_zero] at hst
 cases hq:P.info? e with
 | none=>simp [hq] at hs
 | some i =>
  have hi:i.size=sz:=by simpa [hq] using hs
  simp [Builtin.copy_,run_underlying hu,Builtin.lenOf,sizeOf,typeInfo,hq,hi,hk,hld,hst,spl]
theorem wp_copy_runM (w:World) {o:Oper} {a:Act} {K:Act→World→Prop} {Q:Exit→Act→World→Prop} (d s:Operand) (t t':TypeId)
  (ho:o.op=.call { callee:=.builtin .copy,args:=#[d,s],argTypes:=#[t,t'] }) (v u:Value) (hd:a.eval d=v) (hs:a.eval s=u) {v':Value} {w':World}
  (hr:(Builtin.copy_ #[t,t'] o.type #[v,u]).run P w=.ok v' w') (h:K (a.put o.dst v') w'):o.wp P a w K Q:=by
 unfold Oper.wp execOp
 simp only [ho,resolve,invoke,builtin,Sem.run_bind,Sem.run_pure,Result.andThen_ok,List.map_toArray,List.map_cons,List.map_nil,hd,hs,hr]
 exact h
theorem wpList_copy_runM (w:World) {ops:Array Oper} {rest:List Oper} {o:Oper} {a:Act} {Q:Exit→Act→World→Prop} (hgd:o.guard=none) (d s:Operand) (t t':TypeId)
  (ho:o.op=.call { callee:=.builtin .copy,args:=#[d,s],argTypes:=#[t,t'] }) (v u:Value) (hd:a.eval d=v) (hs:a.eval s=u) {v':Value} {w':World}
  (hr:(Builtin.copy_ #[t,t'] o.type #[v,u]).run P w=.ok v' w') (h:wpList P ops Q rest (a.put o.dst v') w'):wpList P ops Q (o :: rest) a w :=
 wpList_plain hgd fun _ hK=>wp_copy_runM w d s t t' ho v u hd hs hr (hK _ _ h)
theorem step_copy_runM {ops:Array Oper} {o:Oper} {a:Act} {w:World} {K:Act→World→Prop} {Q:Exit→Act→World→Prop} {E:Prop}
  (hg:o.guard=none) (d x:Operand) (dT sT:TypeId) (hop:o.op=Op.call { callee:=Callee.builtin Builtin.copy,args:=#[d,x],argTypes:=#[dT,sT] })
  (v u:Value) (hd:a.eval d=v) (hx:a.eval x=u) {v':Value} {w':World} (hr:(Builtin.copy_ #[dT,sT] o.type #[v,u]).run P w=.ok v' w') (hK:K (a.put o.dst v') w') :
  if Region.wanted o (yielded ops a.tmps)=true then Oper.wp P o a w K Q else E:=by
 have hw:Region.wanted o (yielded ops a.tmps)=true:=by simp [Region.wanted,hg]
 rw [if_pos hw]
 exact wp_copy_runM w d x dT sT hop v u hd hx hr hK
theorem wp_append_runM (w:World) {o:Oper} {a:Act} {K:Act→World→Prop} {Q:Exit→Act→World→Prop} (d s:Operand) (t t':TypeId)
  (ho:o.op=.call { callee:=.builtin .append,args:=#[d,s],argTypes:=#[t,t'] }) (v u:Value) (hd:a.eval d=v) (hs:a.eval s=u) {v':Value} {w':World}
  (hr:(Builtin.append_ #[t,t'] o.type #[v,u]).run P w=.ok v' w') (h:K (a.put o.dst v') w'):o.wp P a w K Q:=by
 unfold Oper.wp execOp
 simp only [ho,resolve,invoke,builtin,Sem.run_bind,Sem.run_pure,Result.andThen_ok,List.map_toArray,List.map_cons,List.map_nil,hd,hs,hr]
 exact h
theorem wpList_append_runM (w:World) {ops:Array Oper} {rest:List Oper} {o:Oper} {a:Act} {Q:Exit→Act→World→Prop} (hgd:o.guard=none) (d s:Operand) (t t':TypeId)
  (ho:o.op=.call { callee:=.builtin .append,args:=#[d,s],argTypes:=#[t,t'] }) (v u:Value) (hd:a.eval d=v) (hs:a.eval s=u) {v':Value} {w':World}
  (hr:(Builtin.append_ #[t,t'] o.type #[v,u]).run P w=.ok v' w') (h:wpList P ops Q rest (a.put o.dst v') w'):wpList P ops Q (o :: rest) a w :=
 wpList_plain hgd fun _ hK=>wp_append_runM w d s t t' ho v u hd hs hr (hK _ _ h)
/-- A slice's cells: those of its elements are told. -/
structure RowAt (w:World) (b off n c sz:Nat) (cs:List Value):Prop where
 row:∃ CS e,w.heap[b]?=some (.cells CS e (0,0))∧off+c * sz≤CS.size∧∀ (j:Nat) v,cs[j]?=some v→CS[off+j]?=some v
 cap:n≤c
 len:cs.length=n * sz
 one:∀ v∈cs,v.oneCell'=true
/-- A function has handed over a slice with these cells, in a block of its own argument or in a new one. -/
def Rowed (w w':World) (own:Nat→Prop) (e:Ending) (n sz:Nat) (cs:List Value):Prop :=
 ∃ b off c,e=.returned (.slice (some ⟨b,off,none⟩) n c)∧RowAt w' b off n c sz cs∧(own b∨w.heap.size≤b)∧b < w'.heap.size ∧
  w'.os=w.os∧w'.tape=w.tape∧w'.output=w.output∧w.heap.size≤w'.heap.size∧∀ x,¬ own x→x < w.heap.size→w'.heap[x]?=w.heap[x]?
theorem lt_heap {w:World} {b:Nat} {o:Obj} (h:w.heap[b]?=some o):b < w.heap.size:=by
 rcases Nat.lt_or_ge b w.heap.size with h1 | h1
 ·exact h1
 ·rw [Array.getElem?_eq_none h1] at h;cases h
theorem Rowed.same {w w':World} {b off n c sz:Nat} {cs:List Value} {CS:Array Value} {e:TypeId} (hw:∀ x,x≠b→w'.heap[x]?=w.heap[x]?) (hsz:w'.heap.size=w.heap.size) (ho:w'.os=w.os) (ht:w'.tape=w.tape) (hp:w'.output=w.output)
  (hb:w'.heap[b]?=some (.cells CS e (0,0))) (hf:off+c * sz≤CS.size) (hc:∀ (j:Nat) v,cs[j]?=some v→CS[off+j]?=some v) (hn:n≤c) (hl:cs.length=n * sz) (h1:∀ v∈cs,v.oneCell'=true) :
  Rowed w w' (·=b) (.returned (.slice (some ⟨b,off,none⟩) n c)) n sz cs :=
 ⟨b,off,c,rfl,⟨⟨CS,e,hb,hf,hc⟩,hn,hl,h1⟩,.inl rfl,lt_heap hb,ho,ht,hp,Nat.le_of_eq hsz.symm,fun x hx _=>hw x hx⟩
theorem Rowed.new {w w':World} {own:Nat→Prop} {n c sz:Nat} {cs:List Value} {CS:Array Value} {e:TypeId} (hw:∀ x,x < w.heap.size→w'.heap[x]?=w.heap[x]?) (ho:w'.os=w.os) (ht:w'.tape=w.tape) (hp:w'.output=w.output)
  (hb:w'.heap[w.heap.size]?=some (.cells CS e (0,0))) (hf:c * sz≤CS.size) (hc:∀ (j:Nat) v,cs[j]?=some v→CS[j]?=some v) (hn:n≤c) (hl:cs.length=n * sz) (h1:∀ v∈cs,v.oneCell'=true) :
  Rowed w w' own (.returned (.slice (some ⟨w.heap.size,0,none⟩) n c)) n sz cs :=
 ⟨_,0,c,rfl,⟨⟨CS,e,hb,by omega,fun j v hj=>by rw [Nat.zero_add];exact hc j v hj⟩,hn,hl,h1⟩,.inr (Nat.le_refl _),lt_heap hb,ho,ht,hp,Nat.le_of_lt (lt_heap hb),fun x _ hx=>hw x hx⟩
theorem ins_cells {CS:Array Value} {cs vs:List Value} {off i n sz:Nat} (h1:off+(i+1) * sz+(cs.drop (i * sz)).length≤CS.size) (h2:off+i * sz+vs.length≤(spl CS (off+(i+1) * sz) (cs.drop (i * sz))).size)
  (hi:i < n) (hcl:cs.length=n * sz) (hvl:vs.length=1 * sz) (hcs:∀ (j:Nat) v,cs[j]?=some v→CS[off+j]?=some v) :
  ∀ (j:Nat) v,(cs.take (i * sz) ++ vs ++ cs.drop (i * sz))[j]?=some v→(spl (spl CS (off+(i+1) * sz) (cs.drop (i * sz))) (off+i * sz) vs)[off+j]?=some v:=by
 intro j v hj
 have hle:i * sz≤n * sz:=Nat.mul_le_mul_right _ (by omega)
 have hm:(i+1) * sz=i * sz+sz:=by rw [Nat.add_mul,Nat.one_mul]
 have ht:(cs.take (i * sz)).length=i * sz:=by rw [List.length_take,hcl];omega
 rw [spl_get h2,spl_get h1,hm]
 rw [List.append_assoc] at hj
 by_cases a:j < i * sz
 ·rw [List.getElem?_append_left (by omega),List.getElem?_take,if_pos a] at hj
  rw [if_pos (by omega),if_pos (by omega)]
  exact hcs j v hj
 ·rw [List.getElem?_append_right (by omega),ht] at hj
  rw [if_neg (by omega)]
  by_cases b:j < i * sz+vs.length
  ·rw [List.getElem?_append_left (by omega)] at hj
   rw [if_pos (by omega),show off+j - (off+i * sz)=j - i * sz by omega]
   exact hj
  ·rw [List.getElem?_append_right (by omega)] at hj
   have hlt:=(List.getElem?_eq_some_iff.1 hj).1
   rw [if_neg (by omega),if_neg (by omega),if_pos (by omega),show off+j - (off+(i * sz+sz))=j - i * sz - vs.length by omega]
   exact hj
theorem app_cells {CS:Array Value} {cs vs:List Value} {off n sz:Nat} (h:off+n * sz+vs.length≤CS.size) (hcl:cs.length=n * sz) (hcs:∀ (j:Nat) v,cs[j]?=some v→CS[off+j]?=some v) :
  ∀ (j:Nat) v,(cs ++ vs)[j]?=some v→(spl CS (off+n * sz) vs)[off+j]?=some v:=by
 intro j v hj
 rw [spl_get h]
 by_cases a:j < n * sz
 ·rw [List.getElem?_append_left (by omega)] at hj
  rw [if_pos (by omega)]
  exact hcs j v hj
 ·rw [List.getElem?_append_right (by omega)] at hj
  have hlt:=(List.getElem?_eq_some_iff.1 hj).1
  rw [if_neg (by omega),if_pos (by omega),show off+j - (off+n * sz)=j - cs.length by omega]
  exact hj
theorem grow_cells {R:Array Value} {cs vs:List Value} {i n sz:Nat} (h1:i * sz+vs.length≤R.size) (h2:(i+1) * sz+(cs.drop (i * sz)).length≤(spl R (i * sz) vs).size)
  (hi:i < n) (hcl:cs.length=n * sz) (hvl:vs.length=1 * sz) (hR:∀ (j:Nat) v,(cs.take (i * sz))[j]?=some v→R[j]?=some v) :
  ∀ (j:Nat) v,(cs.take (i * sz) ++ vs ++ cs.drop (i * sz))[j]?=some v→(spl (spl R (i * sz) vs) ((i+1) * sz) (cs.drop (i * sz)))[j]?=some v:=by
 intro j v hj
 have hle:i * sz≤n * sz:=Nat.mul_le_mul_right _ (by omega)
 have hm:(i+1) * sz=i * sz+sz:=by rw [Nat.add_mul,Nat.one_mul]
 have ht:(cs.take (i * sz)).length=i * sz:=by rw [List.length_take,hcl];omega
 rw [spl_get h2,spl_get h1,hm]
 rw [List.append_assoc] at hj
 by_cases a:j < i * sz
 ·rw [List.getElem?_append_left (by omega)] at hj
  rw [if_pos (by omega),if_pos (by omega)]
  exact hR j v hj
 ·rw [List.getElem?_append_right (by omega),ht] at hj
  by_cases b:j < i * sz+vs.length
  ·rw [List.getElem?_append_left (by omega)] at hj
   rw [if_pos (by omega),if_neg a,if_pos (by omega)]
   exact hj
  ·rw [List.getElem?_append_right (by omega)] at hj
   have hlt:=(List.getElem?_eq_some_iff.1 hj).1
   rw [if_neg (by omega),if_pos (by omega),show j - (i * sz+sz)=j - i * sz - vs.length by omega]
   exact hj
theorem grown_ge (w:World) (need old:Nat) (e:TypeId):need≤grownCap w need old e:=grownCap_ge w need old e
/-- A row among rows. -/
def insF (i:Nat) (F G:Nat→Nat→T) (j k:Nat):T:=if j < i then F j k else if j=i then G 0 k else F (j - 1) k
/-- Where the rows' arrays lie. -/
def insG (i:Nat) (x:Option (Addr × Nat)) (γ:Nat→Gh):Nat→Gh
 | 0=>fun p=>match p with
  | [0,0]=>x
  | 0 :: 0 :: j :: k :: q=>if j < i then γ 0 (0 :: 0 :: j :: k :: q) else if j=i then γ 2 (0 :: 0 :: 0 :: k :: q) else γ 0 (0 :: 0 :: (j - 1) :: k :: q)
  | _=>none
 | _+1=>noG
theorem insG_some {i:Nat} {x:Option (Addr × Nat)} {γ:Nat→Gh} {a:Nat} {p:Path} {y:Addr × Nat} (h:insG i x γ a p=some y) :
  a=0∧((p=[0,0]∧x=some y)∨∃ j k q,p=0 :: 0 :: j :: k :: q∧((j < i∧γ 0 (0 :: 0 :: j :: k :: q)=some y)∨(j=i∧γ 2 (0 :: 0 :: 0 :: k :: q)=some y)∨(i < j∧γ 0 (0 :: 0 :: (j - 1) :: k :: q)=some y))):=by
 cases a with
 | succ a=>cases h
 | zero =>
  refine ⟨rfl,?_⟩
  unfold insG at h
  dsimp only at h
  split at h
  ·exact .inl ⟨rfl,h⟩
  ·rename_i j k q
   refine .inr ⟨j,k,q,rfl,?_⟩
   split at h
   ·exact .inl ⟨‹_›,h⟩
   ·split at h
    ·exact .inr (.inl ⟨‹_›,h⟩)
    ·exact .inr (.inr ⟨by omega,h⟩)
  ·cases h
theorem own_rows {w:World} {m n:Nat} {F:Nat→Nat→T} {g:Gh} {v:Value} (h:RelOwn w (.arr m n F) g v):(g []=none∧n=0∧v=.slice none 0 0) ∨
  ∃ b off c cs,g []=some (⟨b,off,none⟩,c)∧v=.slice (some ⟨b,off,none⟩) n c∧0 < m∧RowAt w b off n c m cs∧∀ (x:Nat) u,cs[x]?=some u→RelOwn w (F (x / m) (x % m)) (fun q=>g ((x / m) :: (x % m) :: q)) u:=by
 rcases h with h | ⟨b,off,c,CS,e,hg,hv,⟨hn,hm⟩,hb,hf,hc⟩
 ·exact .inl h
 ·refine .inr ?_
  obtain ⟨cs,hl,hh⟩:=list_of (Q:=fun x u=>CS[off+x]?=some u∧RelOwn w (F (x / m) (x % m)) (fun q=>g ((x / m) :: (x % m) :: q)) u) (n * m) (fun x hx=>by
   obtain ⟨h1,h2,h3⟩:=split_idx hm hx
   obtain ⟨u,hu,hr⟩:=hc _ h1 _ h2
   rw [h3] at hu
   exact ⟨u,hu,hr⟩)
  exact ⟨b,off,c,cs,hg,hv,hm,⟨⟨CS,e,hb,hf,fun j v hj=>(hh j v hj).1⟩,hn,hl,fun v hv=>by
   obtain ⟨j,hj⟩:=List.getElem?_of_mem hv
   exact (hh j v hj).2.one⟩,fun x u hx=>(hh x u hx).2⟩
theorem own_mk {w:World} {m n b off c:Nat} {F:Nat→Nat→T} {g:Gh} {cs:List Value} (hg:g []=some (⟨b,off,none⟩,c)) (hm:0 < m) (hr:RowAt w b off n c m cs)
  (hh:∀ j,j < n→∀ k,k < m→∀ u,cs[j * m+k]?=some u→RelOwn w (F j k) (fun q=>g (j :: k :: q)) u):RelOwn w (.arr m n F) g (.slice (some ⟨b,off,none⟩) n c):=by
 obtain ⟨⟨CS,e,hb,hf,hc⟩,hn,hl,_⟩:=hr
 refine .inr ⟨b,off,c,CS,e,hg,rfl,⟨hn,hm⟩,hb,hf,fun j hj k hk=>?_⟩
 have hlt:j * m+k < cs.length:=by rw [hl];exact idx_lt hj hk
 exact ⟨cs[j * m+k],hc _ _ (List.getElem?_eq_getElem hlt),hh j hj k hk _ (List.getElem?_eq_getElem hlt)⟩
theorem insert_sound {f : FuncId} {m n i : Nat} {F Gt : Nat → Nat → T} (hfn : ∃ fn, P.funcs[f]? = some fn ∧ fn.body.isSome = true ∧ fn.name ≠ "runtime.NumGoroutine") (hi : i ≤ n)
  (raw:∀ (w:World) (b off c vb voff vc:Nat) (cs vs:List Value),RowAt w b off n c m cs→RowAt w vb voff 1 vc m vs→vb≠b →
   Calls P f #[.slice (some ⟨b,off,none⟩) n c,.int .i64 i,.slice (some ⟨vb,voff,none⟩) 1 vc] w fun e w'=>Rowed w w' (·=b) e (n+1) m (cs.take (i * m) ++ vs ++ cs.drop (i * m)))
  (raw0:n=0→∀ (w:World) (vb voff vc:Nat) (vs:List Value),RowAt w vb voff 1 vc m vs →
   Calls P f #[.slice none 0 0,.int .i64 0,.slice (some ⟨vb,voff,none⟩) 1 vc] w fun e w'=>Rowed w w' (fun _=>False) e 1 m vs) :
  Sound P f [(3,(false,[.tr true (.arr m n F)])),(0,(false,[.tr false (.int .i64 i)])),(3,(false,[.tr true (.arr m 1 Gt)]))] [(false,[.tr true (.arr m (n+1) (insF i F Gt))])] [(false,[]),(false,[]),(false,[])]:=by
 refine ⟨hfn,fun w vals γ hA=>?_⟩
 obtain ⟨u0,hu0,ha0⟩:=hA.arg 0 _ rfl
 obtain ⟨u1,hu1,ha1⟩:=hA.arg 1 _ rfl
 obtain ⟨u2,hu2,ha2⟩:=hA.arg 2 _ rfl
 have hvals:vals=#[u0,u1,u2]:=by
  have hs:=hA.size
  simp only [List.length_cons,List.length_nil] at hs
  refine Array.ext (by simpa using hs) fun k h1 h2=>?_
  have h2':k < 3:=by simpa using h2
  rw [← Option.some_inj,← Array.getElem?_eq_getElem h1]
  rcases k with _ | _ | _ | k
  ·simpa using hu0
  ·simpa using hu1
  ·simpa using hu2
  ·omega
 have e1:u1=.int .i64 i:=by
  have h:ArgRow w (Dof γ) (false,[.tr false (.int .i64 i)]) u1:=ha1
  exact h gg0 vv0
 have hr0:RelOwn w (.arr m n F) (fun q=>γ 0 (0 :: 0 :: q)) u0:=by
  have h:allOwn _∧∀ E G V,RelRow E G V w (fun k q=>γ 0 (0 :: k :: q)) (false,[.tr true (.arr m n F)]) u0:=ha0
  exact h.2 (calleeEnv w (Dof γ)) gg0 vv0
 have hr2:RelOwn w (.arr m 1 Gt) (fun q=>γ 2 (0 :: 0 :: q)) u2:=by
  have h:allOwn _∧∀ E G V,RelRow E G V w (fun k q=>γ 2 (0 :: k :: q)) (false,[.tr true (.arr m 1 Gt)]) u2:=ha2
  exact h.2 (calleeEnv w (Dof γ)) gg0 vv0
 rcases own_rows hr2 with ⟨_,h0,_⟩ | ⟨vb,voff,vc,vs,hg2,rfl,hm,hv,hvo⟩
 ·cases h0
 subst e1
 -- the arrays of the result
 have close:∀ (own:Nat→Prop) (cs:List Value) (e:Ending) (w':World),cs.length=n * m→(∀ (x:Nat) u,cs[x]?=some u→RelOwn w (F (x / m) (x % m)) (fun q=>γ 0 (0 :: 0 :: (x / m) :: (x % m) :: q)) u) →
   (∀ x,own x→∃ c:Nat × Nat,γ 0 [0,0]=some (⟨x,c.1,none⟩,c.2))→Rowed w w' own e (n+1) m (cs.take (i * m) ++ vs ++ cs.drop (i * m)) →
   ∃ v δ,e=.returned v∧GrewD w w' (Dof γ)∧ResX w w' γ [(3,(false,[.tr true (.arr m n F)])),(0,(false,[.tr false (.int .i64 i)])),(3,(false,[.tr true (.arr m 1 Gt)]))] vals [(false,[.tr true (.arr m (n+1) (insF i F Gt))])] [(false,[]),(false,[]),(false,[])] v δ:=by
  rintro own cs e w' hcl hco hown ⟨b,off,c,rfl,hR,hob,hbl,hos,htp,hou,hsz,hold⟩
  have hD:∀ x,own x→Dof γ x:=fun x hx=>by
   obtain ⟨c,hc⟩:=hown x hx
   exact ⟨0,_,_,_,hc,rfl⟩
  have hdeep:∀ a p ad c',γ a p=some (ad,c')→p≠[0,0]→ad.block≠b∧¬ own ad.block:=fun a p ad c' hg hp=>by
   have hno:¬ own ad.block:=fun ho=>by
    obtain ⟨c2,hc2⟩:=hown _ ho
    exact hp (hA.inj _ _ _ _ _ _ _ _ hg hc2 rfl).2
   refine ⟨fun e=>?_,hno⟩
   rcases hob with h | h
   ·exact hno (e ▸ h)
   ·have:=hA.rng _ _ _ _ hg
    omega
  have hkeep:∀ a p ad c',γ a p=some (ad,c')→p≠[0,0]→w'.heap[ad.block]?=w.heap[ad.block]?:=fun a p ad c' hg hp=>hold _ (hdeep a p ad c' hg hp).2 (hA.rng _ _ _ _ hg)
  refine ⟨_,insG i (some (⟨b,off,none⟩,c)) γ,rfl,⟨hos,htp,hou,hsz,fun x hx hnd=>hold x (fun ho=>hnd (hD x ho)) hx⟩,⟨?_,?_,?_,?_⟩⟩
  ·intro a p a' p' ad c1 ad' c1' h h' hb
   obtain ⟨ea,k1⟩:=insG_some h
   obtain ⟨ea',k1'⟩:=insG_some h'
   clear h h'
   refine ⟨ea.trans ea'.symm,?_⟩
   clear ea ea'
   have h:=k1
   have h':=k1'
   have deep:∀ {j k q y},((j < i∧γ 0 (0 :: 0 :: j :: k :: q)=some y)∨(j=i∧γ 2 (0 :: 0 :: 0 :: k :: q)=some y)∨(i < j∧γ 0 (0 :: 0 :: (j - 1) :: k :: q)=some y))→y.1.block≠b:=fun {j k q y} h=>by
    rcases h with h | h | h
    ·exact (hdeep _ _ y.1 y.2 h.2 (by simp)).1
    ·exact (hdeep _ _ y.1 y.2 h.2 (by simp)).1
    ·exact (hdeep _ _ y.1 y.2 h.2 (by simp)).1
   rcases h with ⟨rfl,h⟩ | ⟨j,k,q,rfl,h⟩
   ·rcases h' with ⟨rfl,h'⟩ | ⟨j',k',q',rfl,h'⟩
    ·rfl
    ·simp only [Option.some.injEq,Prod.mk.injEq] at h
     exact absurd (by rw [← hb,← h.1]) (deep h')
   ·rcases h' with ⟨rfl,h'⟩ | ⟨j',k',q',rfl,h'⟩
    ·simp only [Option.some.injEq,Prod.mk.injEq] at h'
     exact absurd (by rw [hb,← h'.1]) (deep h)
    ·have fin:∀ {a1 a2:Nat} {p1 p2:Path},γ a1 p1=some (ad,c1)→γ a2 p2=some (ad',c1')→a1=a2∧p1=p2:=fun h1 h2=>hA.inj _ _ _ _ _ _ _ _ h1 h2 hb
     rcases h with ⟨g1,h⟩ | ⟨g1,h⟩ | ⟨g1,h⟩ <;> rcases h' with ⟨g2,h'⟩ | ⟨g2,h'⟩ | ⟨g2,h'⟩ <;> obtain ⟨r1,r2⟩:=fin h h' <;> simp only [List.cons.injEq,true_and] at r2 ⊢
     ·exact r2
     ·omega
     ·omega
     ·omega
     ·exact ⟨by omega,r2⟩
     ·omega
     ·omega
     ·omega
     ·exact ⟨by omega,r2.2⟩
  ·intro a p ad c1 h
   obtain ⟨_,k1⟩:=insG_some h
   clear h
   have h:=k1
   have deep:∀ {a2 p2},γ a2 p2=some (ad,c1)→(w.heap.size≤ad.block∨Dof γ ad.block)∧ad.block < w'.heap.size:=fun hg=>⟨.inr ⟨_,_,_,_,hg,rfl⟩,Nat.lt_of_lt_of_le (hA.rng _ _ _ _ hg) hsz⟩
   rcases h with ⟨rfl,h⟩ | ⟨j,k,q,rfl,h | h | h⟩
   ·simp only [Option.some.injEq,Prod.mk.injEq] at h
    rw [← h.1]
    exact ⟨hob.elim (fun h=>.inr (hD _ h)) .inl,hbl⟩
   ·exact deep h.2
   ·exact deep h.2
   ·exact deep h.2
  ·intro E G V
   show RelOwn w' (.arr m (n+1) (insF i F Gt)) (fun q=>insG i (some (⟨b,off,none⟩,c)) γ 0 (0 :: 0 :: q)) _
   refine own_mk rfl hm hR fun j hj k hk u hu=>?_
   have hle:i * m≤n * m:=Nat.mul_le_mul_right _ hi
   have hlt:=idx_lt hj hk
   have ht:(cs.take (i * m)).length=i * m:=by rw [List.length_take,hcl];omega
   have hvl:vs.length=m:=by rw [hv.len,Nat.one_mul]
   rw [List.append_assoc] at hu
   by_cases a:j < i
   ·have hx:j * m+k < i * m:=idx_lt a hk
    rw [List.getElem?_append_left (by omega),List.getElem?_take,if_pos hx] at hu
    have h:=hco _ u hu
    have hd:(j * m+k) / m=j:=by rw [Nat.mul_comm,Nat.mul_add_div hm,Nat.div_eq_of_lt hk];omega
    have hmd:(j * m+k) % m=k:=by rw [Nat.mul_comm,Nat.mul_add_mod,Nat.mod_eq_of_lt hk]
    rw [hd,hmd] at h
    have e1:insF i F Gt j k=F j k:=by unfold insF;rw [if_pos a]
    have e2:(fun q=>insG i (some (⟨b,off,none⟩,c)) γ 0 (0 :: 0 :: j :: k :: q))=fun q=>γ 0 (0 :: 0 :: j :: k :: q):=by funext q;simp only [insG,if_pos a]
    rw [e1,e2]
    exact h.extL fun p _ _ _ ad c' _ hg=>hkeep _ _ ad c' hg (by simp)
   ·rw [List.getElem?_append_right (by rw [ht];have:=Nat.mul_le_mul_right m (Nat.le_of_not_lt a);omega),ht] at hu
    by_cases a2:j=i
    ·subst a2
     rw [Nat.add_sub_cancel_left,List.getElem?_append_left (by omega)] at hu
     have h:=hvo _ u hu
     rw [Nat.div_eq_of_lt hk,Nat.mod_eq_of_lt hk] at h
     have e1:insF j F Gt j k=Gt 0 k:=by unfold insF;rw [if_neg a,if_pos rfl]
     have e2:(fun q=>insG j (some (⟨b,off,none⟩,c)) γ 0 (0 :: 0 :: j :: k :: q))=fun q=>γ 2 (0 :: 0 :: 0 :: k :: q):=by funext q;simp only [insG,if_neg a,if_true]
     rw [e1,e2]
     exact h.extL fun p _ _ _ ad c' _ hg=>hkeep _ _ ad c' hg (by simp)
    ·have hgt:i < j:=by omega
     obtain ⟨j1,rfl⟩:∃ j1,j=j1+1:=⟨j - 1,by omega⟩
     have hij:i * m≤j1 * m:=Nat.mul_le_mul_right _ (by omega)
     have hx1:(j1+1) * m+k - i * m - vs.length=j1 * m - i * m+k:=by rw [Nat.add_mul,Nat.one_mul,hvl];omega
     rw [List.getElem?_append_right (by rw [Nat.add_mul,Nat.one_mul,hvl];omega),hx1,List.getElem?_drop,show i * m+(j1 * m - i * m+k)=j1 * m+k by omega] at hu
     have h:=hco _ u hu
     have hd:(j1 * m+k) / m=j1:=by rw [Nat.mul_comm,Nat.mul_add_div hm,Nat.div_eq_of_lt hk];omega
     have hmd:(j1 * m+k) % m=k:=by rw [Nat.mul_comm,Nat.mul_add_mod,Nat.mod_eq_of_lt hk]
     rw [hd,hmd] at h
     have e1:insF i F Gt (j1+1) k=F j1 k:=by unfold insF;rw [if_neg a,if_neg a2];rfl
     have e2:(fun q=>insG i (some (⟨b,off,none⟩,c)) γ 0 (0 :: 0 :: (j1+1) :: k :: q))=fun q=>γ 0 (0 :: 0 :: j1 :: k :: q):=by funext q;simp only [insG,if_neg a,if_neg a2];rfl
     rw [e1,e2]
     exact h.extL fun p _ _ _ ad c' _ hg=>hkeep _ _ ad c' hg (by simp)
  ·intro k x hx
   rcases k with _ | _ | _ | k
   ·cases hx
    exact ⟨_,_,rfl,by rw [hvals];rfl,by unfold OutOk;simp⟩
   ·cases hx
    exact ⟨_,_,rfl,by rw [hvals];rfl,by unfold OutOk;simp⟩
   ·cases hx
    exact ⟨_,_,rfl,by rw [hvals];rfl,by unfold OutOk;simp⟩
   ·cases hx
 rcases own_rows hr0 with ⟨hg0,hn0,rfl⟩ | ⟨b,off,c,cs,hg0,rfl,_,hs,hco⟩
 ·subst hn0
  obtain rfl:i=0:=by omega
  rw [hvals]
  refine (raw0 rfl w vb voff vc vs hv).mono fun e w' h=>?_
  rw [← hvals]
  refine close (fun _=>False) [] e w' (by simp) (fun x u h=>by simp at h) (fun x h=>h.elim) ?_
  simpa using h
 ·have hne:vb≠b:=fun e=>by
   have:=(hA.inj 2 [0,0] 0 [0,0] _ _ _ _ hg2 hg0 e).1
   omega
  rw [hvals]
  refine (raw w b off c vb voff vc cs vs hs hv hne).mono fun e w' h=>?_
  rw [← hvals]
  exact close (·=b) cs e w' hs.len hco (fun x hx=>⟨(off,c),by rw [hx];exact hg0⟩) h
theorem insF_list {α:Type} {row:α→List T} {l:List α} {x:α} {i:Nat} (hi:i≤l.length):insF i (atL row l) (atL row [x])=atL row (l.take i ++ [x] ++ l.drop i):=by
 have ht:(l.take i).length=i:=by rw [List.length_take];omega
 funext j k
 unfold insF atL
 rw [List.append_assoc]
 by_cases a:j < i
 ·rw [if_pos a,List.getElem?_append_left (by omega),List.getElem?_take,if_pos a]
 ·rw [if_neg a,List.getElem?_append_right (by omega),ht]
  by_cases b:j=i
  ·subst b
   rw [if_pos rfl]
   simp
  ·rw [if_neg b]
   obtain ⟨d,rfl⟩:∃ d,j=i+1+d:=⟨j - i - 1,by omega⟩
   rw [show i+1+d - i=d+1 by omega,List.singleton_append,List.getElem?_cons_succ,List.getElem?_drop]
   congr 2
   omega
end
end Go.Mach
namespace Go.Mach
open Go Go.RowKit Go.Proofs
set_option maxHeartbeats 4000000 in
set_option maxRecDepth 100000 in
theorem ins_shift_Hd {w:World} {b off n c i vb voff vc:Nat} {cs vs:List Value} (hs:RowAt w b off n c 2 cs) (hv:RowAt w vb voff 1 vc 2 vs) (hne:vb≠b) (hi:i < n) (hroom:n+1≤c) (hn:n≤4611686018427387904) :
  Calls Tryz.prog 115 #[.slice (some ⟨b,off,none⟩) n c,.int .i64 i,.slice (some ⟨vb,voff,none⟩) 1 vc] w fun e w'=>Rowed w w' (·=b) e (n+1) 2 (cs.take (i * 2) ++ vs ++ cs.drop (i * 2)):=by
 obtain ⟨⟨CS,eC,hb,hfit,hcs⟩,hnc,hcl,h1c⟩:=hs
 obtain ⟨⟨VS,eV,hvb,hvf,hvs⟩,hvc,hvl,h1v⟩:=hv
 have hov:∀ lb cb,(callFunc 169 #[.slice (some ⟨vb,voff,none⟩) 1 vc,.slice (some ⟨b,off+(i+1) * 2,none⟩) lb cb]).run Tryz.prog w=.ok (.value (.bool false)) w:=fun lb cb=>by
  rw [run_callFunc_extern Tryz.func169 (by kernel_rfl) (by kernel_rfl) (by kernel_rfl) (e:=Extern.SlicesOverlaps.overlaps #[115,115] #[4]) (by kernel_rfl),
   Lib.run_overlaps_apart w 115 4 44 Tryz.underlying115 2 (fun w=>by kernel_rfl) ⟨vb,voff,none⟩ ⟨b,off+(i+1) * 2,none⟩ 1 vc lb cb hne eV eC VS.size CS.size (by simp [World.shape?,hvb]) (by simp [World.shape?,hb]) (by omega) (by simp [World.frozen?,hvb]) (by simp [World.frozen?,hvb])]
  rfl
 have hdl:(cs.drop (i * 2)).length=(n - i) * 2:=by rw [List.length_drop,hcl];omega
 have hw1:IntKind.i64.wrap ((i:Int)+1)=(i:Int)+1:=by rw [IntKind.wrap_i64];omega
 have hz2:¬ ((i:Int)=(n:Int)):=by omega
 have hin:i≤n:=by omega
 have htn:((i:Int)+1).toNat=i+1:=by omega
 have hb1:(0:Int)≤(i:Int)+1:=by omega
 have hb2:¬ (c=i+1):=by omega
 have hb3:(i:Int)≤(n:Int)+1:=by omega
 have hb4:¬ (c=i):=by omega
 have hle:off+(i+1) * 2+(cs.drop (i * 2)).length≤CS.size:=by rw [hdl];omega
 have h1d:∀ v∈cs.drop (i * 2),v.oneCell'=true:=fun v hv=>h1c v (List.mem_of_mem_drop hv)
 have hcp1:∀ ty dc sc,(Builtin.copy_ #[115,115] ty #[.slice (some ⟨b,off+(i+1) * 2,none⟩) (n - i) dc,.slice (some ⟨b,off+i * 2,none⟩) (n+1 - i) sc]).run Tryz.prog w.drew=.ok (goInt (n - i:Nat)) (w.drew.setRow b (spl CS (off+(i+1) * 2) (cs.drop (i * 2)))):=fun ty dc sc =>
  run_copyR w.drew 115 115 ty 44 eC 2 Tryz.underlying115 (by kernel_rfl) b _ _ dc CS hb ⟨b,off+i * 2,none⟩ _ sc (n - i) (cs.drop (i * 2)) (by simp only [Nat.min_def];split <;> omega) hdl
   (fun j v hj=>by
    rw [List.getElem?_drop] at hj
    have:=hcs _ v hj
    rw [← Nat.add_assoc] at this
    simp [World.cell?,Addr.add_lit,show w.drew.heap[b]?=_ from hb,this]) hle h1d
 have hb2':(w.drew.setRow b (spl CS (off+(i+1) * 2) (cs.drop (i * 2)))).heap[b]?=some (.cells (spl CS (off+(i+1) * 2) (cs.drop (i * 2))) eC (0,0)):=setRow_heap w.drew b CS _ eC (0,0) hb
 have hv2':(w.drew.setRow b (spl CS (off+(i+1) * 2) (cs.drop (i * 2)))).heap[vb]?=some (.cells VS eV (0,0)):=(setRow_other w.drew b vb _ hne).trans hvb
 have hsp1:=spl_size hle
 have hle2:off+i * 2+vs.length≤(spl CS (off+(i+1) * 2) (cs.drop (i * 2))).size:=by rw [hvl,hsp1];omega
 have hcp2:∀ ty dc,(Builtin.copy_ #[115,115] ty #[.slice (some ⟨b,off+i * 2,none⟩) (n+1 - i) dc,.slice (some ⟨vb,voff,none⟩) 1 vc]).run Tryz.prog (w.drew.setRow b (spl CS (off+(i+1) * 2) (cs.drop (i * 2))))=.ok (goInt (1:Nat)) ((w.drew.setRow b (spl CS (off+(i+1) * 2) (cs.drop (i * 2)))).setRow b (spl (spl CS (off+(i+1) * 2) (cs.drop (i * 2))) (off+i * 2) vs)):=fun ty dc =>
  run_copyR _ 115 115 ty 44 eC 2 Tryz.underlying115 (by kernel_rfl) b _ _ dc _ hb2' ⟨vb,voff,none⟩ 1 vc 1 vs (by simp only [Nat.min_def];split <;> omega) hvl
   (fun j v hj=>by
    have:=hvs j v hj
    simp [World.cell?,Addr.add_lit,hv2',this]) hle2 h1v
 go_enter Tryz.func115,Tryz.ntmps115
 go_wp2_with (simp only [hov])
 go_region_law (refine step_copy_runM rfl _ _ 115 115 rfl _ _ (by simp [Act.eval,Act.put]) (by simp [Act.eval,Act.put]) (hcp1 _ _ _) ?_)
 go_wp2_with (at_builtin;refine wpList_copy_runM _ rfl _ _ 115 115 rfl _ _ rfl rfl (hcp2 _ _) ?_)
 go_ret
 refine Rowed.same (CS:=spl (spl CS (off+(i+1) * 2) (cs.drop (i * 2))) (off+i * 2) vs) (e:=eC) (fun x hx=>?_) ?_ rfl rfl rfl (setRow_heap _ b _ _ eC (0,0) hb2') ?_ ?_ hroom ?_ ?_
 ·rw [setRow_other _ b x _ hx,setRow_other _ b x _ hx]
  rfl
 ·simp [World.setRow]
 ·rw [spl_size hle2,hsp1];exact hfit
 ·exact ins_cells hle hle2 hi hcl hvl hcs
 ·simp only [List.length_append,List.length_take,hdl,hvl,hcl];omega
 ·intro v hv
  rcases List.mem_append.1 hv with h | h
  ·rcases List.mem_append.1 h with h | h
   ·exact h1c v (List.mem_of_mem_take h)
   ·exact h1v v h
  ·exact h1d v h
set_option maxHeartbeats 4000000 in
set_option maxRecDepth 100000 in
theorem ins_end_Hd {w:World} {b off n c vb voff vc:Nat} {cs vs:List Value} (hs:RowAt w b off n c 2 cs) (hv:RowAt w vb voff 1 vc 2 vs) (hroom:n+1≤c) (hn:n≤4611686018427387904) :
  Calls Tryz.prog 115 #[.slice (some ⟨b,off,none⟩) n c,.int .i64 n,.slice (some ⟨vb,voff,none⟩) 1 vc] w fun e w'=>Rowed w w' (·=b) e (n+1) 2 (cs ++ vs):=by
 obtain ⟨⟨CS,eC,hb,hfit,hcs⟩,hnc,hcl,h1c⟩:=hs
 obtain ⟨⟨VS,eV,hvb,hvf,hvs⟩,hvc,hvl,h1v⟩:=hv
 obtain ⟨i0,hi0,hz0,hzs,hzb⟩:∃ i0:TypeInfo,Tryz.prog.info? 44=some i0∧(∃ z,i0.zero=some z∧z.cells.size=2)∧i0.size=2∧i0.bytes=16:=⟨_,rfl,⟨_,rfl,by kernel_rfl⟩,by kernel_rfl,by kernel_rfl⟩
 have hfc:(Builtin.firstCells i0.size 1 (.slice (some ⟨vb,voff,none⟩) 1 vc)).run Tryz.prog w=.ok vs.toArray w:=by
  rw [hzs]
  exact run_firstCells_some w 2 1 ⟨vb,voff,none⟩ 1 vc vs hvl fun j v hj=>by simp [World.cell?,Addr.add_lit,hvb,hvs j v hj]
 have hle:off+n * 2+vs.length≤CS.size:=by rw [hvl];omega
 have hap:∀ ty,(Builtin.append_ #[115,115] ty #[.slice (some ⟨b,off,none⟩) n c,.slice (some ⟨vb,voff,none⟩) 1 vc]).run Tryz.prog w=.ok (.slice (some ⟨b,off,none⟩) (n+1) c) (w.setRow b (spl CS (off+n * 2) vs)):=fun ty=>by
  have:=run_append_room' 115 ty 44 eC i0 Tryz.underlying115 hi0 b off n c CS hb (some ⟨vb,voff,none⟩) 1 vc vs hfc h1v hroom (by rw [hzs];exact hle)
  rw [hzs] at this
  exact this
 go_enter Tryz.func115,Tryz.ntmps115
 go_wp2_with (at_builtin;refine wpList_append_runM _ rfl _ _ 115 115 rfl _ _ rfl rfl (hap _) ?_)
 go_ret
 refine Rowed.same (CS:=spl CS (off+n * 2) vs) (e:=eC) (fun x hx=>setRow_other _ b x _ hx) (by simp [World.setRow]) rfl rfl rfl (setRow_heap w b CS _ eC (0,0) hb) ?_ ?_ hroom ?_ ?_
 ·rw [spl_size hle];exact hfit
 ·exact app_cells hle hcl hcs
 ·simp only [List.length_append,hvl,hcl];omega
 ·intro v hv
  rcases List.mem_append.1 hv with h | h
  ·exact h1c v h
  ·exact h1v v h
set_option maxHeartbeats 4000000 in
set_option maxRecDepth 100000 in
theorem ins_egrow_Hd {w:World} {b off n c vb voff vc:Nat} {cs vs:List Value} (hs:RowAt w b off n c 2 cs) (hv:RowAt w vb voff 1 vc 2 vs) (hroom:c < n+1) (hn:(n+1) * 16≤140737488355328) :
  Calls Tryz.prog 115 #[.slice (some ⟨b,off,none⟩) n c,.int .i64 n,.slice (some ⟨vb,voff,none⟩) 1 vc] w fun e w'=>Rowed w w' (·=b) e (n+1) 2 (cs ++ vs):=by
 obtain ⟨⟨CS,eC,hb,hfit,hcs⟩,hnc,hcl,h1c⟩:=hs
 obtain ⟨⟨VS,eV,hvb,hvf,hvs⟩,hvc,hvl,h1v⟩:=hv
 obtain ⟨i0,hi0,hz0,hzs,hzb⟩:∃ i0:TypeInfo,Tryz.prog.info? 44=some i0∧(∃ z,i0.zero=some z∧z.cells.size=2)∧i0.size=2∧i0.bytes=16:=⟨_,rfl,⟨_,rfl,by kernel_rfl⟩,by kernel_rfl,by kernel_rfl⟩
 obtain ⟨z,hz,hzl⟩:=hz0
 obtain ⟨G,hG⟩:∃ G,G=grownCap w (n+1) c 44:=⟨_,rfl⟩
 have hge:n+1≤G:=by rw [hG];exact grown_ge w (n+1) c 44
 obtain ⟨ROW,hROW⟩:∃ ROW:Array Value,ROW=cs.toArray ++ vs.toArray ++ Builtin.zeroCells z.cells (G - (n+1)):=⟨_,rfl⟩
 have hap:∀ ty,(Builtin.append_ #[115,115] ty #[.slice (some ⟨b,off,none⟩) n c,.slice (some ⟨vb,voff,none⟩) 1 vc]).run Tryz.prog w=.ok (.slice (some ⟨w.heap.size,0,none⟩) (n+1) G) (w.drew.alloc (.cells ROW 44)):=fun ty=>by
  rw [hROW,hG]
  exact run_append_grow w 115 ty 44 i0 z Tryz.underlying115 hi0 hz ⟨b,off,none⟩ n c cs (by rw [hzs];exact hcl) (fun j v hj=>by simp [World.cell?,Addr.add_lit,hb,hcs j v hj]) ⟨vb,voff,none⟩ 1 vc vs (by rw [hzs];exact hvl) (fun j v hj=>by simp [World.cell?,Addr.add_lit,hvb,hvs j v hj]) hroom (by omega) (by rw [hzb];exact growslice_fits hroom hn)
 have hf:G * 2≤ROW.size:=by
  rw [hROW]
  simp only [Array.size_append,List.size_toArray,size_zeroCells,hzl,hcl,hvl,← Nat.add_mul]
  exact Nat.mul_le_mul_right _ (by omega)
 have hc:∀ (j:Nat) v,(cs ++ vs)[j]?=some v→ROW[j]?=some v:=fun j v hj=>by
  rw [hROW,Array.getElem?_append_left (by simpa using (List.getElem?_eq_some_iff.1 hj).1)]
  simpa using hj
 have hl:(cs ++ vs).length=(n+1) * 2:=by simp only [List.length_append,hvl,hcl];omega
 have h1:∀ v∈cs ++ vs,v.oneCell'=true:=fun v hv=>(List.mem_append.1 hv).elim (h1c v) (h1v v)
 have hR:=Rowed.new (own:=(·=b)) (w:=w) (w':=w.drew.alloc (.cells ROW 44)) (e:=44) (fun x hx=>(grew_drew w _).old x hx) rfl rfl rfl (heap_alloc_new w.drew _) hf hc hge hl h1
 obtain ⟨W1,hW1⟩:∃ W1,W1=w.drew.alloc (.cells ROW 44):=⟨_,rfl⟩
 rw [← hW1] at hap hR
 clear hW1 hf hc hl h1 hROW hG hge
 go_enter Tryz.func115,Tryz.ntmps115
 go_wp2_with (at_builtin;refine wpList_append_runM _ rfl _ _ 115 115 rfl _ _ rfl rfl (hap _) ?_)
 all_goals (go_ret;exact hR)
set_option maxHeartbeats 4000000 in
set_option maxRecDepth 100000 in
theorem ins_nil_Hd {w:World} {vb voff vc:Nat} {vs:List Value} (hv:RowAt w vb voff 1 vc 2 vs) :
  Calls Tryz.prog 115 #[.slice none 0 0,.int .i64 0,.slice (some ⟨vb,voff,none⟩) 1 vc] w fun e w'=>Rowed w w' (fun _=>False) e 1 2 vs:=by
 obtain ⟨⟨VS,eV,hvb,hvf,hvs⟩,hvc,hvl,h1v⟩:=hv
 obtain ⟨i0,hi0,hz0,hzs,hzb⟩:∃ i0:TypeInfo,Tryz.prog.info? 44=some i0∧(∃ z,i0.zero=some z∧z.cells.size=2)∧i0.size=2∧i0.bytes=16:=⟨_,rfl,⟨_,rfl,by kernel_rfl⟩,by kernel_rfl,by kernel_rfl⟩
 obtain ⟨z,hz,hzl⟩:=hz0
 obtain ⟨G,hG⟩:∃ G,G=grownCap w 1 0 44:=⟨_,rfl⟩
 have hge:1≤G:=by rw [hG];exact grown_ge w 1 0 44
 obtain ⟨ROW,hROW⟩:∃ ROW:Array Value,ROW=vs.toArray ++ Builtin.zeroCells z.cells (G - 1):=⟨_,rfl⟩
 have hap:∀ ty,(Builtin.append_ #[115,115] ty #[.slice none 0 0,.slice (some ⟨vb,voff,none⟩) 1 vc]).run Tryz.prog w=.ok (.slice (some ⟨w.heap.size,0,none⟩) 1 G) (w.drew.alloc (.cells ROW 44)):=fun ty=>by
  rw [hROW,hG]
  exact run_append_nil w 115 ty 44 i0 z Tryz.underlying115 hi0 hz ⟨vb,voff,none⟩ 1 vc vs (by rw [hzs];exact hvl) (fun j v hj=>by simp [World.cell?,Addr.add_lit,hvb,hvs j v hj]) (by omega) (by omega) (by rw [hzb];omega)
 have hf:G * 2≤ROW.size:=by
  rw [hROW]
  simp only [Array.size_append,List.size_toArray,size_zeroCells,hzl,hvl,← Nat.add_mul]
  exact Nat.mul_le_mul_right _ (by omega)
 have hc:∀ (j:Nat) v,vs[j]?=some v→ROW[j]?=some v:=fun j v hj=>by
  rw [hROW,Array.getElem?_append_left (by simpa using (List.getElem?_eq_some_iff.1 hj).1)]
  simpa using hj
 have hR:=Rowed.new (own:=fun _=>False) (w:=w) (w':=w.drew.alloc (.cells ROW 44)) (e:=44) (fun x hx=>(grew_drew w _).old x hx) rfl rfl rfl (heap_alloc_new w.drew _) hf hc hge hvl h1v
 obtain ⟨W1,hW1⟩:∃ W1,W1=w.drew.alloc (.cells ROW 44):=⟨_,rfl⟩
 rw [← hW1] at hap hR
 clear hW1 hf hc hROW hG hge
 go_enter Tryz.func115,Tryz.ntmps115
 go_wp2_with (at_builtin;refine wpList_append_runM _ rfl _ _ 115 115 rfl _ _ rfl rfl (hap _) ?_)
 all_goals (go_ret;exact hR)
set_option maxHeartbeats 4000000 in
set_option maxRecDepth 100000 in
theorem ins_grow_Hd {w:World} {b off n c i vb voff vc:Nat} {cs vs:List Value} (hs:RowAt w b off n c 2 cs) (hv:RowAt w vb voff 1 vc 2 vs) (hi:i < n) (hroom:c < n+1) (hn:(n+1) * 16≤140737488355328) :
  Calls Tryz.prog 115 #[.slice (some ⟨b,off,none⟩) n c,.int .i64 i,.slice (some ⟨vb,voff,none⟩) 1 vc] w fun e w'=>Rowed w w' (·=b) e (n+1) 2 (cs.take (i * 2) ++ vs ++ cs.drop (i * 2)):=by
 obtain ⟨⟨CS,eC,hb,hfit,hcs⟩,hnc,hcl,h1c⟩:=hs
 obtain ⟨⟨VS,eV,hvb,hvf,hvs⟩,hvc,hvl,h1v⟩:=hv
 obtain ⟨i0,hi0,hz0,hzs,hzb⟩:∃ i0:TypeInfo,Tryz.prog.info? 44=some i0∧(∃ z,i0.zero=some z∧z.cells.size=2)∧i0.size=2∧i0.bytes=16:=⟨_,rfl,⟨_,rfl,by kernel_rfl⟩,by kernel_rfl,by kernel_rfl⟩
 obtain ⟨z,hz,hzl⟩:=hz0
 have hdl:(cs.drop (i * 2)).length=(n - i) * 2:=by rw [List.length_drop,hcl];omega
 have hw1:IntKind.i64.wrap ((i:Int)+1)=(i:Int)+1:=by rw [IntKind.wrap_i64];omega
 have hw2:IntKind.i64.wrap ((n:Int)+1 - (i:Int))=((n+1 - i:Nat):Int):=by rw [IntKind.wrap_i64];omega
 have hw3:(n:Int)+1 - (i:Int)=((n+1 - i:Nat):Int):=by omega
 have hz2:¬ ((i:Int)=(n:Int)):=by omega
 have hz3:(c:Int) < (n:Int)+1:=by omega
 have hin:i≤n:=by omega
 have hic:i≤c:=by omega
 have hik:i+(n+1 - i)=n+1:=by omega
 have htn:((i:Int)+1).toNat=i+1:=by omega
 have hb1:(0:Int)≤(i:Int)+1:=by omega
 have hb3:(i:Int)≤(n:Int)+1:=by omega
 have h1d:∀ v∈cs.drop (i * 2),v.oneCell'=true:=fun v hv=>h1c v (List.mem_of_mem_drop hv)
 have hold:(Builtin.firstCells i0.size i (.slice (some ⟨b,off,none⟩) i c)).run Tryz.prog w.drew=.ok (cs.take (i * 2)).toArray w.drew:=by
  rw [hzs]
  exact run_firstCells_some w.drew 2 i ⟨b,off,none⟩ i c (cs.take (i * 2)) (by rw [List.length_take];omega) fun j v hj=>by
   rw [List.getElem?_take] at hj
   split at hj
   ·simp [World.cell?,Addr.add_lit,show w.drew.heap[b]?=_ from hb,hcs j v hj]
   ·cases hj
 obtain ⟨G,hG⟩:∃ G,G=grownCap w (n+1) c 44:=⟨_,rfl⟩
 have hge:n+1≤G:=by rw [hG];exact grown_ge w (n+1) c 44
 obtain ⟨ROW,hROW⟩:∃ ROW:Array Value,ROW=(cs.take (i * 2)).toArray ++ Builtin.zeroCells z.cells (n+1 - i) ++ Builtin.zeroCells z.cells (G - (n+1)):=⟨_,rfl⟩
 have hap:∀ ty,(Builtin.append_ #[115,3] ty #[.slice (some ⟨b,off,none⟩) i c,.int .i64 ((n+1 - i:Nat):Int)]).run Tryz.prog w=.ok (.slice (some ⟨w.heap.size,0,none⟩) (n+1) G) (w.drew.alloc (.cells ROW 44)):=fun ty=>by
  have:=Lib.run_append_grow_zeros w 115 3 ty 44 i0 z .i64 .i64 Tryz.underlying115 Tryz.underlying3 hi0 hz (some ⟨b,off,none⟩) i c (cs.take (i * 2)) hold (n+1 - i) (by omega) (by rw [hzs];omega) (by omega) (by omega) (by rw [hzb];omega) (by rw [hzb,hik];exact growslice_fits hroom hn)
  rw [hik] at this
  rw [hROW,hG]
  exact this
 have hRl:ROW.size=G * 2:=by
  rw [hROW]
  simp only [Array.size_append,List.size_toArray,size_zeroCells,hzl,List.length_take,hcl]
  omega
 have hR0:∀ (j:Nat) v,(cs.take (i * 2))[j]?=some v→ROW[j]?=some v:=fun j v hj=>by
  rw [hROW,Array.getElem?_append_left (by have:=(List.getElem?_eq_some_iff.1 hj).1;simp only [Array.size_append,List.size_toArray];omega),Array.getElem?_append_left (by simpa using (List.getElem?_eq_some_iff.1 hj).1)]
  simpa using hj
 have hbw:=lt_heap hb
 have hvw:=lt_heap hvb
 have hnew:(w.drew.alloc (.cells ROW 44)).heap[w.heap.size]?=some (.cells ROW 44 (0,0)):=heap_alloc_new w.drew _
 have hvb1:(w.drew.alloc (.cells ROW 44)).heap[vb]?=some (.cells VS eV (0,0)):=((grew_drew w _).old vb hvw).trans hvb
 have hb1':(w.drew.alloc (.cells ROW 44)).heap[b]?=some (.cells CS eC (0,0)):=((grew_drew w _).old b hbw).trans hb
 obtain ⟨W1,hW1⟩:∃ W1,W1=w.drew.alloc (.cells ROW 44):=⟨_,rfl⟩
 rw [← hW1] at hap hnew hvb1 hb1'
 have hle:i * 2+vs.length≤ROW.size:=by rw [hvl,hRl];omega
 have hcp1:∀ ty dc,(Builtin.copy_ #[115,115] ty #[.slice (some ⟨w.heap.size,i * 2,none⟩) (n+1 - i) dc,.slice (some ⟨vb,voff,none⟩) 1 vc]).run Tryz.prog W1=.ok (goInt (1:Nat)) (W1.setRow w.heap.size (spl ROW (i * 2) vs)):=fun ty dc =>
  run_copyR W1 115 115 ty 44 44 2 Tryz.underlying115 (by kernel_rfl) w.heap.size _ _ dc ROW hnew ⟨vb,voff,none⟩ 1 vc 1 vs (by simp only [Nat.min_def];split <;> omega) hvl
   (fun j v hj=>by simp [World.cell?,Addr.add_lit,hvb1,hvs j v hj]) hle h1v
 obtain ⟨W2,hW2⟩:∃ W2,W2=W1.setRow w.heap.size (spl ROW (i * 2) vs):=⟨_,rfl⟩
 have hnew2:W2.drew.heap[w.heap.size]?=some (.cells (spl ROW (i * 2) vs) 44 (0,0)):=by rw [hW2];exact setRow_heap W1 _ ROW _ 44 (0,0) hnew
 have hb2':W2.drew.heap[b]?=some (.cells CS eC (0,0)):=by rw [hW2];exact (setRow_other W1 _ b _ (by omega)).trans hb1'
 rw [← hW2] at hcp1
 have hs1:=spl_size hle
 have hle2:(i+1) * 2+(cs.drop (i * 2)).length≤(spl ROW (i * 2) vs).size:=by rw [hdl,hs1,hRl];omega
 have hcp2:∀ ty dc sc,(Builtin.copy_ #[115,115] ty #[.slice (some ⟨w.heap.size,(i+1) * 2,none⟩) (n - i) dc,.slice (some ⟨b,off+i * 2,none⟩) (n - i) sc]).run Tryz.prog W2.drew=.ok (goInt (n - i:Nat)) (W2.drew.setRow w.heap.size (spl (spl ROW (i * 2) vs) ((i+1) * 2) (cs.drop (i * 2)))):=fun ty dc sc =>
  run_copyR W2.drew 115 115 ty 44 44 2 Tryz.underlying115 (by kernel_rfl) w.heap.size _ _ dc _ hnew2 ⟨b,off+i * 2,none⟩ _ sc (n - i) (cs.drop (i * 2)) (by simp only [Nat.min_def];split <;> omega) hdl
   (fun j v hj=>by
    rw [List.getElem?_drop] at hj
    have:=hcs _ v hj
    rw [← Nat.add_assoc] at this
    simp [World.cell?,Addr.add_lit,hb2',this]) hle2 h1d
 have hot:∀ x,x < w.heap.size→(W2.drew.setRow w.heap.size (spl (spl ROW (i * 2) vs) ((i+1) * 2) (cs.drop (i * 2)))).heap[x]?=w.heap[x]?:=fun x hx=>by
  rw [setRow_other _ _ x _ (by omega),hW2]
  exact ((setRow_other W1 _ x _ (by omega)).trans (by rw [hW1];exact (grew_drew w _).old x hx))
 have hl:(cs.take (i * 2) ++ vs ++ cs.drop (i * 2)).length=(n+1) * 2:=by simp only [List.length_append,List.length_take,hdl,hvl,hcl];omega
 have h1:∀ v∈cs.take (i * 2) ++ vs ++ cs.drop (i * 2),v.oneCell'=true:=fun v hv=>by
  rcases List.mem_append.1 hv with h | h
  ·rcases List.mem_append.1 h with h | h
   ·exact h1c v (List.mem_of_mem_take h)
   ·exact h1v v h
  ·exact h1d v h
 have hR:=Rowed.new (own:=(·=b)) (w:=w) (e:=44) (CS:=spl (spl ROW (i * 2) vs) ((i+1) * 2) (cs.drop (i * 2))) hot (by rw [hW2,hW1];rfl) (by rw [hW2,hW1];rfl) (by rw [hW2,hW1];rfl) (setRow_heap W2.drew _ _ _ 44 (0,0) hnew2) (by rw [spl_size hle2,hs1,hRl];exact Nat.le_refl _) (grow_cells hle hle2 hi hcl hvl hR0) hge hl h1
 obtain ⟨W3,hW3⟩:∃ W3,W3=W2.drew.setRow w.heap.size (spl (spl ROW (i * 2) vs) ((i+1) * 2) (cs.drop (i * 2))):=⟨_,rfl⟩
 rw [← hW3] at hcp2 hR
 have hb5:¬ (G=i):=by omega
 have hb6:¬ (G=i+1):=by omega
 have hb7:¬ (c=i):=by omega
 clear hW3 hW2 hW1 hot hl h1 hnew2 hb2' hnew hvb1 hb1' hROW hR0 hRl hle2 hs1 hle hG hold
 go_enter Tryz.func115,Tryz.ntmps115
 go_wp2_with (first
  | (at_builtin;refine wpList_append_runM _ rfl _ _ 115 3 rfl _ _ rfl rfl (hap _) ?_)
  | (at_builtin;refine wpList_copy_runM _ rfl _ _ 115 115 rfl _ _ rfl rfl (hcp1 _ _) ?_))
 go_region_law (refine step_copy_runM rfl _ _ 115 115 rfl _ _ (by simp [Act.eval,Act.put]) (by simp [Act.eval,Act.put]) (hcp2 _ _ _) ?_)
 go_wp2
 go_ret
 exact hR
theorem ins_raw_Hd {w:World} {b off n c i vb voff vc:Nat} {cs vs:List Value} (hs:RowAt w b off n c 2 cs) (hv:RowAt w vb voff 1 vc 2 vs) (hne:vb≠b) (hi:i≤n) (hn:(n+1) * 16≤140737488355328) :
  Calls Tryz.prog 115 #[.slice (some ⟨b,off,none⟩) n c,.int .i64 i,.slice (some ⟨vb,voff,none⟩) 1 vc] w fun e w'=>Rowed w w' (·=b) e (n+1) 2 (cs.take (i * 2) ++ vs ++ cs.drop (i * 2)):=by
 by_cases h:i < n
 ·by_cases h2:n+1≤c
  ·exact ins_shift_Hd hs hv hne h h2 (by omega)
  ·exact ins_grow_Hd hs hv h (by omega) hn
 ·obtain rfl:i=n:=by omega
  rw [List.take_of_length_le (by rw [hs.len];exact Nat.le_refl _),List.drop_eq_nil_of_le (by rw [hs.len];exact Nat.le_refl _),List.append_nil]
  by_cases h2:i+1≤c
  ·exact ins_end_Hd hs hv h2 (by omega)
  ·exact ins_egrow_Hd hs hv (by omega) hn
set_option maxHeartbeats 4000000 in
set_option maxRecDepth 100000 in
theorem ins_shift_Rm {w:World} {b off n c i vb voff vc:Nat} {cs vs:List Value} (hs:RowAt w b off n c 11 cs) (hv:RowAt w vb voff 1 vc 11 vs) (hne:vb≠b) (hi:i < n) (hroom:n+1≤c) (hn:n≤4611686018427387904) :
  Calls Tryz.prog 118 #[.slice (some ⟨b,off,none⟩) n c,.int .i64 i,.slice (some ⟨vb,voff,none⟩) 1 vc] w fun e w'=>Rowed w w' (·=b) e (n+1) 11 (cs.take (i * 11) ++ vs ++ cs.drop (i * 11)):=by
 obtain ⟨⟨CS,eC,hb,hfit,hcs⟩,hnc,hcl,h1c⟩:=hs
 obtain ⟨⟨VS,eV,hvb,hvf,hvs⟩,hvc,hvl,h1v⟩:=hv
 have hov:∀ lb cb,(callFunc 171 #[.slice (some ⟨vb,voff,none⟩) 1 vc,.slice (some ⟨b,off+(i+1) * 11,none⟩) lb cb]).run Tryz.prog w=.ok (.value (.bool false)) w:=fun lb cb=>by
  rw [run_callFunc_extern Tryz.func171 (by kernel_rfl) (by kernel_rfl) (by kernel_rfl) (e:=Extern.SlicesOverlaps.overlaps #[41,41] #[4]) (by kernel_rfl),
   Lib.run_overlaps_apart w 41 4 118 Tryz.underlying41 11 (fun w=>by kernel_rfl) ⟨vb,voff,none⟩ ⟨b,off+(i+1) * 11,none⟩ 1 vc lb cb hne eV eC VS.size CS.size (by simp [World.shape?,hvb]) (by simp [World.shape?,hb]) (by omega) (by simp [World.frozen?,hvb]) (by simp [World.frozen?,hvb])]
  rfl
 have hdl:(cs.drop (i * 11)).length=(n - i) * 11:=by rw [List.length_drop,hcl];omega
 have hw1:IntKind.i64.wrap ((i:Int)+1)=(i:Int)+1:=by rw [IntKind.wrap_i64];omega
 have hz2:¬ ((i:Int)=(n:Int)):=by omega
 have hin:i≤n:=by omega
 have htn:((i:Int)+1).toNat=i+1:=by omega
 have hb1:(0:Int)≤(i:Int)+1:=by omega
 have hb2:¬ (c=i+1):=by omega
 have hb3:(i:Int)≤(n:Int)+1:=by omega
 have hb4:¬ (c=i):=by omega
 have hle:off+(i+1) * 11+(cs.drop (i * 11)).length≤CS.size:=by rw [hdl];omega
 have h1d:∀ v∈cs.drop (i * 11),v.oneCell'=true:=fun v hv=>h1c v (List.mem_of_mem_drop hv)
 have hcp1:∀ ty dc sc,(Builtin.copy_ #[41,41] ty #[.slice (some ⟨b,off+(i+1) * 11,none⟩) (n - i) dc,.slice (some ⟨b,off+i * 11,none⟩) (n+1 - i) sc]).run Tryz.prog w.drew=.ok (goInt (n - i:Nat)) (w.drew.setRow b (spl CS (off+(i+1) * 11) (cs.drop (i * 11)))):=fun ty dc sc =>
  run_copyR w.drew 41 41 ty 118 eC 11 Tryz.underlying41 (by kernel_rfl) b _ _ dc CS hb ⟨b,off+i * 11,none⟩ _ sc (n - i) (cs.drop (i * 11)) (by simp only [Nat.min_def];split <;> omega) hdl
   (fun j v hj=>by
    rw [List.getElem?_drop] at hj
    have:=hcs _ v hj
    rw [← Nat.add_assoc] at this
    simp [World.cell?,Addr.add_lit,show w.drew.heap[b]?=_ from hb,this]) hle h1d
 have hb2':(w.drew.setRow b (spl CS (off+(i+1) * 11) (cs.drop (i * 11)))).heap[b]?=some (.cells (spl CS (off+(i+1) * 11) (cs.drop (i * 11))) eC (0,0)):=setRow_heap w.drew b CS _ eC (0,0) hb
 have hv2':(w.drew.setRow b (spl CS (off+(i+1) * 11) (cs.drop (i * 11)))).heap[vb]?=some (.cells VS eV (0,0)):=(setRow_other w.drew b vb _ hne).trans hvb
 have hsp1:=spl_size hle
 have hle2:off+i * 11+vs.length≤(spl CS (off+(i+1) * 11) (cs.drop (i * 11))).size:=by rw [hvl,hsp1];omega
 have hcp2:∀ ty dc,(Builtin.copy_ #[41,41] ty #[.slice (some ⟨b,off+i * 11,none⟩) (n+1 - i) dc,.slice (some ⟨vb,voff,none⟩) 1 vc]).run Tryz.prog (w.drew.setRow b (spl CS (off+(i+1) * 11) (cs.drop (i * 11))))=.ok (goInt (1:Nat)) ((w.drew.setRow b (spl CS (off+(i+1) * 11) (cs.drop (i * 11)))).setRow b (spl (spl CS (off+(i+1) * 11) (cs.drop (i * 11))) (off+i * 11) vs)):=fun ty dc =>
  run_copyR _ 41 41 ty 118 eC 11 Tryz.underlying41 (by kernel_rfl) b _ _ dc _ hb2' ⟨vb,voff,none⟩ 1 vc 1 vs (by simp only [Nat.min_def];split <;> omega) hvl
   (fun j v hj=>by
    have:=hvs j v hj
    simp [World.cell?,Addr.add_lit,hv2',this]) hle2 h1v
 go_enter Tryz.func118,Tryz.ntmps118
 go_wp2_with (simp only [hov])
 go_region_law (refine step_copy_runM rfl _ _ 41 41 rfl _ _ (by simp [Act.eval,Act.put]) (by simp [Act.eval,Act.put]) (hcp1 _ _ _) ?_)
 go_wp2_with (at_builtin;refine wpList_copy_runM _ rfl _ _ 41 41 rfl _ _ rfl rfl (hcp2 _ _) ?_)
 go_ret
 refine Rowed.same (CS:=spl (spl CS (off+(i+1) * 11) (cs.drop (i * 11))) (off+i * 11) vs) (e:=eC) (fun x hx=>?_) ?_ rfl rfl rfl (setRow_heap _ b _ _ eC (0,0) hb2') ?_ ?_ hroom ?_ ?_
 ·rw [setRow_other _ b x _ hx,setRow_other _ b x _ hx]
  rfl
 ·simp [World.setRow]
 ·rw [spl_size hle2,hsp1];exact hfit
 ·exact ins_cells hle hle2 hi hcl hvl hcs
 ·simp only [List.length_append,List.length_take,hdl,hvl,hcl];omega
 ·intro v hv
  rcases List.mem_append.1 hv with h | h
  ·rcases List.mem_append.1 h with h | h
   ·exact h1c v (List.mem_of_mem_take h)
   ·exact h1v v h
  ·exact h1d v h
set_option maxHeartbeats 4000000 in
set_option maxRecDepth 100000 in
theorem ins_end_Rm {w:World} {b off n c vb voff vc:Nat} {cs vs:List Value} (hs:RowAt w b off n c 11 cs) (hv:RowAt w vb voff 1 vc 11 vs) (hroom:n+1≤c) (hn:n≤4611686018427387904) :
  Calls Tryz.prog 118 #[.slice (some ⟨b,off,none⟩) n c,.int .i64 n,.slice (some ⟨vb,voff,none⟩) 1 vc] w fun e w'=>Rowed w w' (·=b) e (n+1) 11 (cs ++ vs):=by
 obtain ⟨⟨CS,eC,hb,hfit,hcs⟩,hnc,hcl,h1c⟩:=hs
 obtain ⟨⟨VS,eV,hvb,hvf,hvs⟩,hvc,hvl,h1v⟩:=hv
 obtain ⟨i0,hi0,hz0,hzs,hzb⟩:∃ i0:TypeInfo,Tryz.prog.info? 118=some i0∧(∃ z,i0.zero=some z∧z.cells.size=11)∧i0.size=11∧i0.bytes=136:=⟨_,rfl,⟨_,rfl,by kernel_rfl⟩,by kernel_rfl,by kernel_rfl⟩
 have hfc:(Builtin.firstCells i0.size 1 (.slice (some ⟨vb,voff,none⟩) 1 vc)).run Tryz.prog w=.ok vs.toArray w:=by
  rw [hzs]
  exact run_firstCells_some w 11 1 ⟨vb,voff,none⟩ 1 vc vs hvl fun j v hj=>by simp [World.cell?,Addr.add_lit,hvb,hvs j v hj]
 have hle:off+n * 11+vs.length≤CS.size:=by rw [hvl];omega
 have hap:∀ ty,(Builtin.append_ #[41,41] ty #[.slice (some ⟨b,off,none⟩) n c,.slice (some ⟨vb,voff,none⟩) 1 vc]).run Tryz.prog w=.ok (.slice (some ⟨b,off,none⟩) (n+1) c) (w.setRow b (spl CS (off+n * 11) vs)):=fun ty=>by
  have:=run_append_room' 41 ty 118 eC i0 Tryz.underlying41 hi0 b off n c CS hb (some ⟨vb,voff,none⟩) 1 vc vs hfc h1v hroom (by rw [hzs];exact hle)
  rw [hzs] at this
  exact this
 go_enter Tryz.func118,Tryz.ntmps118
 go_wp2_with (at_builtin;refine wpList_append_runM _ rfl _ _ 41 41 rfl _ _ rfl rfl (hap _) ?_)
 go_ret
 refine Rowed.same (CS:=spl CS (off+n * 11) vs) (e:=eC) (fun x hx=>setRow_other _ b x _ hx) (by simp [World.setRow]) rfl rfl rfl (setRow_heap w b CS _ eC (0,0) hb) ?_ ?_ hroom ?_ ?_
 ·rw [spl_size hle];exact hfit
 ·exact app_cells hle hcl hcs
 ·simp only [List.length_append,hvl,hcl];omega
 ·intro v hv
  rcases List.mem_append.1 hv with h | h
  ·exact h1c v h
  ·exact h1v v h
set_option maxHeartbeats 4000000 in
set_option maxRecDepth 100000 in
theorem ins_egrow_Rm {w:World} {b off n c vb voff vc:Nat} {cs vs:List Value} (hs:RowAt w b off n c 11 cs) (hv:RowAt w vb voff 1 vc 11 vs) (hroom:c < n+1) (hn:(n+1) * 136≤140737488355328) :
  Calls Tryz.prog 118 #[.slice (some ⟨b,off,none⟩) n c,.int .i64 n,.slice (some ⟨vb,voff,none⟩) 1 vc] w fun e w'=>Rowed w w' (·=b) e (n+1) 11 (cs ++ vs):=by
 obtain ⟨⟨CS,eC,hb,hfit,hcs⟩,hnc,hcl,h1c⟩:=hs
 obtain ⟨⟨VS,eV,hvb,hvf,hvs⟩,hvc,hvl,h1v⟩:=hv
 obtain ⟨i0,hi0,hz0,hzs,hzb⟩:∃ i0:TypeInfo,Tryz.prog.info? 118=some i0∧(∃ z,i0.zero=some z∧z.cells.size=11)∧i0.size=11∧i0.bytes=136:=⟨_,rfl,⟨_,rfl,by kernel_rfl⟩,by kernel_rfl,by kernel_rfl⟩
 obtain ⟨z,hz,hzl⟩:=hz0
 obtain ⟨G,hG⟩:∃ G,G=grownCap w (n+1) c 118:=⟨_,rfl⟩
 have hge:n+1≤G:=by rw [hG];exact grown_ge w (n+1) c 118
 obtain ⟨ROW,hROW⟩:∃ ROW:Array Value,ROW=cs.toArray ++ vs.toArray ++ Builtin.zeroCells z.cells (G - (n+1)):=⟨_,rfl⟩
 have hap:∀ ty,(Builtin.append_ #[41,41] ty #[.slice (some ⟨b,off,none⟩) n c,.slice (some ⟨vb,voff,none⟩) 1 vc]).run Tryz.prog w=.ok (.slice (some ⟨w.heap.size,0,none⟩) (n+1) G) (w.drew.alloc (.cells ROW 118)):=fun ty=>by
  rw [hROW,hG]
  exact run_append_grow w 41 ty 118 i0 z Tryz.underlying41 hi0 hz ⟨b,off,none⟩ n c cs (by rw [hzs];exact hcl) (fun j v hj=>by simp [World.cell?,Addr.add_lit,hb,hcs j v hj]) ⟨vb,voff,none⟩ 1 vc vs (by rw [hzs];exact hvl) (fun j v hj=>by simp [World.cell?,Addr.add_lit,hvb,hvs j v hj]) hroom (by omega) (by rw [hzb];exact growslice_fits hroom hn)
 have hf:G * 11≤ROW.size:=by
  rw [hROW]
  simp only [Array.size_append,List.size_toArray,size_zeroCells,hzl,hcl,hvl,← Nat.add_mul]
  exact Nat.mul_le_mul_right _ (by omega)
 have hc:∀ (j:Nat) v,(cs ++ vs)[j]?=some v→ROW[j]?=some v:=fun j v hj=>by
  rw [hROW,Array.getElem?_append_left (by simpa using (List.getElem?_eq_some_iff.1 hj).1)]
  simpa using hj
 have hl:(cs ++ vs).length=(n+1) * 11:=by simp only [List.length_append,hvl,hcl];omega
 have h1:∀ v∈cs ++ vs,v.oneCell'=true:=fun v hv=>(List.mem_append.1 hv).elim (h1c v) (h1v v)
 have hR:=Rowed.new (own:=(·=b)) (w:=w) (w':=w.drew.alloc (.cells ROW 118)) (e:=118) (fun x hx=>(grew_drew w _).old x hx) rfl rfl rfl (heap_alloc_new w.drew _) hf hc hge hl h1
 obtain ⟨W1,hW1⟩:∃ W1,W1=w.drew.alloc (.cells ROW 118):=⟨_,rfl⟩
 rw [← hW1] at hap hR
 clear hW1 hf hc hl h1 hROW hG hge
 go_enter Tryz.func118,Tryz.ntmps118
 go_wp2_with (at_builtin;refine wpList_append_runM _ rfl _ _ 41 41 rfl _ _ rfl rfl (hap _) ?_)
 all_goals (go_ret;exact hR)
set_option maxHeartbeats 4000000 in
set_option maxRecDepth 100000 in
theorem ins_nil_Rm {w:World} {vb voff vc:Nat} {vs:List Value} (hv:RowAt w vb voff 1 vc 11 vs) :
  Calls Tryz.prog 118 #[.slice none 0 0,.int .i64 0,.slice (some ⟨vb,voff,none⟩) 1 vc] w fun e w'=>Rowed w w' (fun _=>False) e 1 11 vs:=by
 obtain ⟨⟨VS,eV,hvb,hvf,hvs⟩,hvc,hvl,h1v⟩:=hv
 obtain ⟨i0,hi0,hz0,hzs,hzb⟩:∃ i0:TypeInfo,Tryz.prog.info? 118=some i0∧(∃ z,i0.zero=some z∧z.cells.size=11)∧i0.size=11∧i0.bytes=136:=⟨_,rfl,⟨_,rfl,by kernel_rfl⟩,by kernel_rfl,by kernel_rfl⟩
 obtain ⟨z,hz,hzl⟩:=hz0
 obtain ⟨G,hG⟩:∃ G,G=grownCap w 1 0 118:=⟨_,rfl⟩
 have hge:1≤G:=by rw [hG];exact grown_ge w 1 0 118
 obtain ⟨ROW,hROW⟩:∃ ROW:Array Value,ROW=vs.toArray ++ Builtin.zeroCells z.cells (G - 1):=⟨_,rfl⟩
 have hap:∀ ty,(Builtin.append_ #[41,41] ty #[.slice none 0 0,.slice (some ⟨vb,voff,none⟩) 1 vc]).run Tryz.prog w=.ok (.slice (some ⟨w.heap.size,0,none⟩) 1 G) (w.drew.alloc (.cells ROW 118)):=fun ty=>by
  rw [hROW,hG]
  exact run_append_nil w 41 ty 118 i0 z Tryz.underlying41 hi0 hz ⟨vb,voff,none⟩ 1 vc vs (by rw [hzs];exact hvl) (fun j v hj=>by simp [World.cell?,Addr.add_lit,hvb,hvs j v hj]) (by omega) (by omega) (by rw [hzb];omega)
 have hf:G * 11≤ROW.size:=by
  rw [hROW]
  simp only [Array.size_append,List.size_toArray,size_zeroCells,hzl,hvl,← Nat.add_mul]
  exact Nat.mul_le_mul_right _ (by omega)
 have hc:∀ (j:Nat) v,vs[j]?=some v→ROW[j]?=some v:=fun j v hj=>by
  rw [hROW,Array.getElem?_append_left (by simpa using (List.getElem?_eq_some_iff.1 hj).1)]
  simpa using hj
 have hR:=Rowed.new (own:=fun _=>False) (w:=w) (w':=w.drew.alloc (.cells ROW 118)) (e:=118) (fun x hx=>(grew_drew w _).old x hx) rfl rfl rfl (heap_alloc_new w.drew _) hf hc hge hvl h1v
 obtain ⟨W1,hW1⟩:∃ W1,W1=w.drew.alloc (.cells ROW 118):=⟨_,rfl⟩
 rw [← hW1] at hap hR
 clear hW1 hf hc hROW hG hge
 go_enter Tryz.func118,Tryz.ntmps118
 go_wp2_with (at_builtin;refine wpList_append_runM _ rfl _ _ 41 41 rfl _ _ rfl rfl (hap _) ?_)
 all_goals (go_ret;exact hR)
set_option maxHeartbeats 4000000 in
set_option maxRecDepth 100000 in
theorem ins_grow_Rm {w:World} {b off n c i vb voff vc:Nat} {cs vs:List Value} (hs:RowAt w b off n c 11 cs) (hv:RowAt w vb voff 1 vc 11 vs) (hi:i < n) (hroom:c < n+1) (hn:(n+1) * 136≤140737488355328) :
  Calls Tryz.prog 118 #[.slice (some ⟨b,off,none⟩) n c,.int .i64 i,.slice (some ⟨vb,voff,none⟩) 1 vc] w fun e w'=>Rowed w w' (·=b) e (n+1) 11 (cs.take (i * 11) ++ vs ++ cs.drop (i * 11)):=by
 obtain ⟨⟨CS,eC,hb,hfit,hcs⟩,hnc,hcl,h1c⟩:=hs
 obtain ⟨⟨VS,eV,hvb,hvf,hvs⟩,hvc,hvl,h1v⟩:=hv
 obtain ⟨i0,hi0,hz0,hzs,hzb⟩:∃ i0:TypeInfo,Tryz.prog.info? 118=some i0∧(∃ z,i0.zero=some z∧z.cells.size=11)∧i0.size=11∧i0.bytes=136:=⟨_,rfl,⟨_,rfl,by kernel_rfl⟩,by kernel_rfl,by kernel_rfl⟩
 obtain ⟨z,hz,hzl⟩:=hz0
 have hdl:(cs.drop (i * 11)).length=(n - i) * 11:=by rw [List.length_drop,hcl];omega
 have hw1:IntKind.i64.wrap ((i:Int)+1)=(i:Int)+1:=by rw [IntKind.wrap_i64];omega
 have hw2:IntKind.i64.wrap ((n:Int)+1 - (i:Int))=((n+1 - i:Nat):Int):=by rw [IntKind.wrap_i64];omega
 have hw3:(n:Int)+1 - (i:Int)=((n+1 - i:Nat):Int):=by omega
 have hz2:¬ ((i:Int)=(n:Int)):=by omega
 have hz3:(c:Int) < (n:Int)+1:=by omega
 have hin:i≤n:=by omega
 have hic:i≤c:=by omega
 have hik:i+(n+1 - i)=n+1:=by omega
 have htn:((i:Int)+1).toNat=i+1:=by omega
 have hb1:(0:Int)≤(i:Int)+1:=by omega
 have hb3:(i:Int)≤(n:Int)+1:=by omega
 have h1d:∀ v∈cs.drop (i * 11),v.oneCell'=true:=fun v hv=>h1c v (List.mem_of_mem_drop hv)
 have hold:(Builtin.firstCells i0.size i (.slice (some ⟨b,off,none⟩) i c)).run Tryz.prog w.drew=.ok (cs.take (i * 11)).toArray w.drew:=by
  rw [hzs]
  exact run_firstCells_some w.drew 11 i ⟨b,off,none⟩ i c (cs.take (i * 11)) (by rw [List.length_take];omega) fun j v hj=>by
   rw [List.getElem?_take] at hj
   split at hj
   ·simp [World.cell?,Addr.add_lit,show w.drew.heap[b]?=_ from hb,hcs j v hj]
   ·cases hj
 obtain ⟨G,hG⟩:∃ G,G=grownCap w (n+1) c 118:=⟨_,rfl⟩
 have hge:n+1≤G:=by rw [hG];exact grown_ge w (n+1) c 118
 obtain ⟨ROW,hROW⟩:∃ ROW:Array Value,ROW=(cs.take (i * 11)).toArray ++ Builtin.zeroCells z.cells (n+1 - i) ++ Builtin.zeroCells z.cells (G - (n+1)):=⟨_,rfl⟩
 have hap:∀ ty,(Builtin.append_ #[41,3] ty #[.slice (some ⟨b,off,none⟩) i c,.int .i64 ((n+1 - i:Nat):Int)]).run Tryz.prog w=.ok (.slice (some ⟨w.heap.size,0,none⟩) (n+1) G) (w.drew.alloc (.cells ROW 118)):=fun ty=>by
  have:=Lib.run_append_grow_zeros w 41 3 ty 118 i0 z .i64 .i64 Tryz.underlying41 Tryz.underlying3 hi0 hz (some ⟨b,off,none⟩) i c (cs.take (i * 11)) hold (n+1 - i) (by omega) (by rw [hzs];omega) (by omega) (by omega) (by rw [hzb];omega) (by rw [hzb,hik];exact growslice_fits hroom hn)
  rw [hik] at this
  rw [hROW,hG]
  exact this
 have hRl:ROW.size=G * 11:=by
  rw [hROW]
  simp only [Array.size_append,List.size_toArray,size_zeroCells,hzl,List.length_take,hcl]
  omega
 have hR0:∀ (j:Nat) v,(cs.take (i * 11))[j]?=some v→ROW[j]?=some v:=fun j v hj=>by
  rw [hROW,Array.getElem?_append_left (by have:=(List.getElem?_eq_some_iff.1 hj).1;simp only [Array.size_append,List.size_toArray];omega),Array.getElem?_append_left (by simpa using (List.getElem?_eq_some_iff.1 hj).1)]
  simpa using hj
 have hbw:=lt_heap hb
 have hvw:=lt_heap hvb
 have hnew:(w.drew.alloc (.cells ROW 118)).heap[w.heap.size]?=some (.cells ROW 118 (0,0)):=heap_alloc_new w.drew _
 have hvb1:(w.drew.alloc (.cells ROW 118)).heap[vb]?=some (.cells VS eV (0,0)):=((grew_drew w _).old vb hvw).trans hvb
 have hb1':(w.drew.alloc (.cells ROW 118)).heap[b]?=some (.cells CS eC (0,0)):=((grew_drew w _).old b hbw).trans hb
 obtain ⟨W1,hW1⟩:∃ W1,W1=w.drew.alloc (.cells ROW 118):=⟨_,rfl⟩
 rw [← hW1] at hap hnew hvb1 hb1'
 have hle:i * 11+vs.length≤ROW.size:=by rw [hvl,hRl];omega
 have hcp1:∀ ty dc,(Builtin.copy_ #[41,41] ty #[.slice (some ⟨w.heap.size,i * 11,none⟩) (n+1 - i) dc,.slice (some ⟨vb,voff,none⟩) 1 vc]).run Tryz.prog W1=.ok (goInt (1:Nat)) (W1.setRow w.heap.size (spl ROW (i * 11) vs)):=fun ty dc =>
  run_copyR W1 41 41 ty 118 118 11 Tryz.underlying41 (by kernel_rfl) w.heap.size _ _ dc ROW hnew ⟨vb,voff,none⟩ 1 vc 1 vs (by simp only [Nat.min_def];split <;> omega) hvl
   (fun j v hj=>by simp [World.cell?,Addr.add_lit,hvb1,hvs j v hj]) hle h1v
 obtain ⟨W2,hW2⟩:∃ W2,W2=W1.setRow w.heap.size (spl ROW (i * 11) vs):=⟨_,rfl⟩
 have hnew2:W2.drew.heap[w.heap.size]?=some (.cells (spl ROW (i * 11) vs) 118 (0,0)):=by rw [hW2];exact setRow_heap W1 _ ROW _ 118 (0,0) hnew
 have hb2':W2.drew.heap[b]?=some (.cells CS eC (0,0)):=by rw [hW2];exact (setRow_other W1 _ b _ (by omega)).trans hb1'
 rw [← hW2] at hcp1
 have hs1:=spl_size hle
 have hle2:(i+1) * 11+(cs.drop (i * 11)).length≤(spl ROW (i * 11) vs).size:=by rw [hdl,hs1,hRl];omega
 have hcp2:∀ ty dc sc,(Builtin.copy_ #[41,41] ty #[.slice (some ⟨w.heap.size,(i+1) * 11,none⟩) (n - i) dc,.slice (some ⟨b,off+i * 11,none⟩) (n - i) sc]).run Tryz.prog W2.drew=.ok (goInt (n - i:Nat)) (W2.drew.setRow w.heap.size (spl (spl ROW (i * 11) vs) ((i+1) * 11) (cs.drop (i * 11)))):=fun ty dc sc =>
  run_copyR W2.drew 41 41 ty 118 118 11 Tryz.underlying41 (by kernel_rfl) w.heap.size _ _ dc _ hnew2 ⟨b,off+i * 11,none⟩ _ sc (n - i) (cs.drop (i * 11)) (by simp only [Nat.min_def];split <;> omega) hdl
   (fun j v hj=>by
    rw [List.getElem?_drop] at hj
    have:=hcs _ v hj
    rw [← Nat.add_assoc] at this
    simp [World.cell?,Addr.add_lit,hb2',this]) hle2 h1d
 have hot:∀ x,x < w.heap.size→(W2.drew.setRow w.heap.size (spl (spl ROW (i * 11) vs) ((i+1) * 11) (cs.drop (i * 11)))).heap[x]?=w.heap[x]?:=fun x hx=>by
  rw [setRow_other _ _ x _ (by omega),hW2]
  exact ((setRow_other W1 _ x _ (by omega)).trans (by rw [hW1];exact (grew_drew w _).old x hx))
 have hl:(cs.take (i * 11) ++ vs ++ cs.drop (i * 11)).length=(n+1) * 11:=by simp only [List.length_append,List.length_take,hdl,hvl,hcl];omega
 have h1:∀ v∈cs.take (i * 11) ++ vs ++ cs.drop (i * 11),v.oneCell'=true:=fun v hv=>by
  rcases List.mem_append.1 hv with h | h
  ·rcases List.mem_append.1 h with h | h
   ·exact h1c v (List.mem_of_mem_take h)
   ·exact h1v v h
  ·exact h1d v h
 have hR:=Rowed.new (own:=(·=b)) (w:=w) (e:=118) (CS:=spl (spl ROW (i * 11) vs) ((i+1) * 11) (cs.drop (i * 11))) hot (by rw [hW2,hW1];rfl) (by rw [hW2,hW1];rfl) (by rw [hW2,hW1];rfl) (setRow_heap W2.drew _ _ _ 118 (0,0) hnew2) (by rw [spl_size hle2,hs1,hRl];exact Nat.le_refl _) (grow_cells hle hle2 hi hcl hvl hR0) hge hl h1
 obtain ⟨W3,hW3⟩:∃ W3,W3=W2.drew.setRow w.heap.size (spl (spl ROW (i * 11) vs) ((i+1) * 11) (cs.drop (i * 11))):=⟨_,rfl⟩
 rw [← hW3] at hcp2 hR
 have hb5:¬ (G=i):=by omega
 have hb6:¬ (G=i+1):=by omega
 have hb7:¬ (c=i):=by omega
 clear hW3 hW2 hW1 hot hl h1 hnew2 hb2' hnew hvb1 hb1' hROW hR0 hRl hle2 hs1 hle hG hold
 go_enter Tryz.func118,Tryz.ntmps118
 go_wp2_with (first
  | (at_builtin;refine wpList_append_runM _ rfl _ _ 41 3 rfl _ _ rfl rfl (hap _) ?_)
  | (at_builtin;refine wpList_copy_runM _ rfl _ _ 41 41 rfl _ _ rfl rfl (hcp1 _ _) ?_))
 go_region_law (refine step_copy_runM rfl _ _ 41 41 rfl _ _ (by simp [Act.eval,Act.put]) (by simp [Act.eval,Act.put]) (hcp2 _ _ _) ?_)
 go_wp2
 go_ret
 exact hR
theorem ins_raw_Rm {w:World} {b off n c i vb voff vc:Nat} {cs vs:List Value} (hs:RowAt w b off n c 11 cs) (hv:RowAt w vb voff 1 vc 11 vs) (hne:vb≠b) (hi:i≤n) (hn:(n+1) * 136≤140737488355328) :
  Calls Tryz.prog 118 #[.slice (some ⟨b,off,none⟩) n c,.int .i64 i,.slice (some ⟨vb,voff,none⟩) 1 vc] w fun e w'=>Rowed w w' (·=b) e (n+1) 11 (cs.take (i * 11) ++ vs ++ cs.drop (i * 11)):=by
 by_cases h:i < n
 ·by_cases h2:n+1≤c
  ·exact ins_shift_Rm hs hv hne h h2 (by omega)
  ·exact ins_grow_Rm hs hv h (by omega) hn
 ·obtain rfl:i=n:=by omega
  rw [List.take_of_length_le (by rw [hs.len];exact Nat.le_refl _),List.drop_eq_nil_of_le (by rw [hs.len];exact Nat.le_refl _),List.append_nil]
  by_cases h2:i+1≤c
  ·exact ins_end_Rm hs hv h2 (by omega)
  ·exact ins_egrow_Rm hs hv (by omega) hn
end Go.Mach
namespace Go.Mach.F
open Go Go.Mach Go.Proofs.Tryz Go.IntKind
--=set_option maxRecDepth 100000
def i_RoomOf1:Nat:=123
noncomputable abbrev F_RoomOf1:Func:=f123
def kp_RoomOf1:List (Nat × List Nat):=[(0,[4,8,9]),(1,[12])]
noncomputable def e_RoomOf1:Ent:=inl [0,0] prog (tabS []) kp_RoomOf1 0 F_RoomOf1
theorem s_RoomOf1:EntOk prog i_RoomOf1 e_RoomOf1:=inl_ok tabS_nil mixed (c:=bodyOf F_RoomOf1) func123 (by kernel_rfl) (name_ok (by kernel_rfl))
def rof (l:List Rm) (h:Hd):Int:=match (List.range l.length).find? (fun i=>decide (l[i]?.map Rm.h=some h)) with
 | some i=>(i:Int)
 | none=>-1
theorem hd_eq (x:Rm) (h:Hd):(decide (x.h.slot=h.slot∧x.h.gen=h.gen))=decide (some x.h=some h):=by
 refine decide_eq_decide.2 ?_
 rcases x with ⟨⟨_,_⟩,_⟩
 rcases h with ⟨_,_⟩
 simp
def ok_ixRm (x:List Rm × Hd):Prop:=x.1.length≤LM
def ea_ixRm (x:List Rm × Hd):List Arg:=[aT (eL 11 Rm.cs x.1),aF i_RoomOf1 x.2.cs]
def f_ixRm (x:List Rm × Hd):Int:=rof x.1 x.2
noncomputable def e_ixRm:Ent:=ent [] ok_ixRm ea_ixRm (erI 2) f_ixRm
theorem ea_ixRm_inj (x y:List Rm × Hd) (h:ea_ixRm x=ea_ixRm y):x=y:=by
 obtain ⟨l1,h1⟩:=x
 obtain ⟨l2,h2⟩:=y
 simp only [ea_ixRm,List.cons.injEq,and_true,true_and] at h
 obtain ⟨e0,e1⟩:=h
 obtain rfl:=eL_inj Rm.cs_inj (aT_inj e0)
 obtain rfl:=Hd.cs_ext (aF_inj (by rfl) e1)
 rfl
theorem dm_ixRm {l:List Rm} {h:Hd} (h0:ok_ixRm (l,h)):dom ok_ixRm ea_ixRm [(0,false,[C.tr false (T.arr 11 l.length (atL Rm.cs l))]),(0,false,[C.fn 123 [Pt.pim 2 (pimF [T.int i64 h.slot,T.int i64 h.gen])]])]=true:=dom_ea (ea:=ea_ixRm) (x:=(l,h)) h0
theorem iv_ixRm {l:List Rm} {h:Hd} (h0:ok_ixRm (l,h)):inv ok_ixRm ea_ixRm [(0,false,[C.tr false (T.arr 11 l.length (atL Rm.cs l))]),(0,false,[C.fn 123 [Pt.pim 2 (pimF [T.int i64 h.slot,T.int i64 h.gen])]])]=(l,h):=inv_ea ea_ixRm_inj (x:=(l,h)) h0
theorem d_ixRm (l:List Rm) (h:Hd):f_ixRm (l,h)=rof l h:=rfl
def i_ixRm:Nat:=116
noncomputable abbrev F_ixRm:Func:=f116
def kp_ixRm:List (Nat × List Nat):=[(0,[0,4]),(1,[0,4,28,32]),(2,[0,4,28,32,36]),(3,[0,4,20,28,32]),(4,[0,4,20,28,32,64]),(5,[16]),(6,[0,4,28,32]),(7,[16])]
def ts_ixRm:List Nat:=[0,0]
def st_ixRm_1 (l:List Rm) (h:Hd) (x32:Int):St:=[(0,⟨z0,[(false,[.tr false (eL 11 Rm.cs l)])]⟩),(4,⟨z0,[(false,[(C.fn 123 [Pt.pim [T.int i64 h.1,T.int i64 h.2].length (pimF [T.int i64 h.1,T.int i64 h.2])])])]⟩),(28,⟨z0,[(false,[.tr true (T.int i64 (↑l.length:Int))])]⟩),(32,⟨z0,[(false,[.tr true (T.int i64 x32)])]⟩)]
def ex_ixRm_1_1 (l:List Rm) (h:Hd) (x32:Int):St:=[(16,⟨z0,[(false,[.tr true (T.int i64 x32)])]⟩)]
def ex_ixRm_1_2 (l:List Rm) (h:Hd) (x32:Int):St:=[(0,⟨z0,[(false,[.tr false (eL 11 Rm.cs l)])]⟩),(4,⟨z0,[(false,[(C.fn 123 [Pt.pim [T.int i64 h.1,T.int i64 h.2].length (pimF [T.int i64 h.1,T.int i64 h.2])])])]⟩),(28,⟨z0,[(false,[.tr true (T.int i64 (↑l.length:Int))])]⟩),(32,⟨z0,[(false,[.tr true (T.int i64 x32)])]⟩),(36,⟨z0,[]⟩)]
noncomputable abbrev tb9:Sems:=tabS [(i_RoomOf1,e_RoomOf1)]
theorem round_ixRm_1 (l:List Rm) (h:Hd) (x32:Int) (n:Nat) (K:Ex→St→Res):roundAt prog tb9 kp_ixRm F_ixRm [1,0,1,0] n (st_ixRm_1 l h x32) K=(bif decide (x32 < (↑l.length:Int)) then gd (decide (0≤x32)&&(x32.toNat.blt l.length&&true))<|gd (T.isI i64 (atL Rm.cs l x32.toNat 0)&&T.isI i64 (atL Rm.cs l x32.toNat 1)&&T.isI i64 (atL Rm.cs l x32.toNat 2)&&T.isI i64 (atL Rm.cs l x32.toNat 3)&&((atL Rm.cs l x32.toNat 4).isArr&&(atL Rm.cs l x32.toNat 4).wd.beq 2)&&T.isI i64 (atL Rm.cs l x32.toNat 5)&&T.isI i64 (atL Rm.cs l x32.toNat 6)&&(atL Rm.cs l x32.toNat 7).isB&&T.isI i64 (atL Rm.cs l x32.toNat 8)&&((atL Rm.cs l x32.toNat 9).isArr&&(atL Rm.cs l x32.toNat 9).wd.beq 1)&&((atL Rm.cs l x32.toNat 10).isArr&&(atL Rm.cs l x32.toNat 10).wd.beq 1))<|bif bif (atL Rm.cs l x32.toNat 0).toI == (T.int i64 h.1).toI then bif (atL Rm.cs l x32.toNat 1).toI == (T.int i64 h.2).toI then true else false else false then K .ret (ex_ixRm_1_1 l h x32) else K .normal (st_ixRm_1 l h (i64.wrap (x32+1))) else K (.exit 0) (ex_ixRm_1_2 l h x32)):=by kernel_rfl
theorem post_ixRm_1_1 (l:List Rm) (h:Hd) (x32:Int) (n:Nat):contAt prog tb9 kp_ixRm F_ixRm ts_ixRm [1,0,1,0] [] n .ret (ex_ixRm_1_1 l h x32)=(some ([(false,[.tr true (T.int i64 x32)])],[(false,[]),(false,[])])):=by kernel_rfl
theorem post_ixRm_1_2 (l:List Rm) (h:Hd) (x32:Int) (n:Nat):contAt prog tb9 kp_ixRm F_ixRm ts_ixRm [1,0,1,0] [] n (.exit 0) (ex_ixRm_1_2 l h x32)=(some ([(false,[.tr true (T.int i64 (-1))])],[(false,[]),(false,[])])):=by kernel_rfl
theorem pre_ixRm (l:List Rm) (h:Hd) (n:Nat):body prog tb9 kp_ixRm n F_ixRm [aT (eL 11 Rm.cs l),aF i_RoomOf1 h.cs]=(loopAt prog tb9 kp_ixRm F_ixRm [1,0,1,0] n n (st_ixRm_1 l h (0)) (contAt prog tb9 kp_ixRm F_ixRm ts_ixRm [1,0,1,0] [] n)):=by kernel_rfl
theorem body_ixRm (l:List Rm) (h:Hd) (h0:ok_ixRm (l,h)):body prog tb9 kp_ixRm (l.length+1) F_ixRm (ea_ixRm (l,h))=some (erI 2 (f_ixRm (l,h))):=by
 have hlm:=lm
 have hl:l.length≤LM:=h0
 unfold ea_ixRm f_ixRm
 try dsimp only
 rw [pre_ixRm]
 have hst:st_ixRm_1 l h 0=(fun i:Nat=>st_ixRm_1 l h (i:Nat)) 0:=rfl
 rw [hst,forExit l.length (fun i:Nat=>st_ixRm_1 l h (i:Nat)) (ex_ixRm_1_2 l h l.length) 0 (fun i=>decide (l[i]?.map Rm.h=some h)) .ret (fun e=>by cases e) (fun i:Nat=>ex_ixRm_1_1 l h (i:Nat)) (fun i K hi=>?_) (fun K=>?_) _ (Nat.le_refl _)]
 ·unfold rof
  cases (List.range l.length).find? (fun i=>decide (l[i]?.map Rm.h=some h)) with
  | none=>exact (post_ixRm_1_2 l h _ _).trans rfl
  | some i=>exact (post_ixRm_1_1 l h _ _).trans rfl
 ·have hx:=List.getElem?_eq_getElem hi
  rw [round_ixRm_1]
  simp (disch:=omega) only [rsx0,hi,atL_of hx,hx,Option.map_some,Rm.cs,wrapS,int_eq,cond_tf,cond_bf,Bool.and_true,dec_and,hd_eq]
 ·rw [round_ixRm_1]
  simp only [lt_d,Nat.lt_irrefl,decide_false,cond_false]
theorem s_ixRm:EntOk prog i_ixRm e_ixRm:=ent_ok ea_ixRm_inj fun x hx =>
 body_sound (φ:=tb9) (tabS_cons s_RoomOf1 tabS_nil) mixed (kp:=kp_ixRm) (n:=x.1.length+1) func116 (c:=bodyOf F_ixRm) (by kernel_rfl) (body_ixRm x.1 x.2 hx) (name_ok (by kernel_rfl))
def ok_sRoomOf (x:Ml × Hd):Prop:=x.1.rooms.length≤LM
def ea_sRoomOf (x:Ml × Hd):List Arg:=[aR x.1.cs,aR x.2.cs]
def f_sRoomOf (x:Ml × Hd):Int:=rof x.1.rooms x.2
noncomputable def e_sRoomOf:Ent:=ent [] ok_sRoomOf ea_sRoomOf (erI 2) f_sRoomOf
theorem ea_sRoomOf_inj (x y:Ml × Hd) (h:ea_sRoomOf x=ea_sRoomOf y):x=y:=by
 obtain ⟨m1,h1⟩:=x
 obtain ⟨m2,h2⟩:=y
 simp only [ea_sRoomOf,List.cons.injEq,and_true,true_and] at h
 obtain ⟨e0,e1⟩:=h
 obtain rfl:=Ml.cs_ext (aR_inj e0)
 obtain rfl:=Hd.cs_ext (aR_inj e1)
 rfl
theorem dm_sRoomOf {m:Ml} {h:Hd} (h0:ok_sRoomOf (m,h)):dom ok_sRoomOf ea_sRoomOf [(wMl m),(wHd h)]=true:=dom_ea (ea:=ea_sRoomOf) (x:=(m,h)) h0
theorem iv_sRoomOf {m:Ml} {h:Hd} (h0:ok_sRoomOf (m,h)):inv ok_sRoomOf ea_sRoomOf [(wMl m),(wHd h)]=(m,h):=inv_ea ea_sRoomOf_inj (x:=(m,h)) h0
theorem d_sRoomOf (m:Ml) (h:Hd):f_sRoomOf (m,h)=rof m.rooms h:=rfl
def i_sRoomOf:Nat:=154
noncomputable abbrev F_sRoomOf:Func:=f154
def kp_sRoomOf:List (Nat × List Nat):=[(0,[8,9,12,13]),(1,[8,9,12,13,20]),(2,[8,9,12,13,20,40]),(3,[8,9,12,13,20]),(4,[8,9,12,13,20,80]),(5,[16]),(6,[16])]
def ts_sRoomOf:List Nat:=[0,0]
def st_sRoomOf_1 (m:Ml) (h:Hd) (x20:Int):St:=[(8,⟨z0,[(false,[(C.pt (Pt.ptr 9 0 [] 8 0 0))])]⟩),(9,⟨z0,[(true,[.tr true (T.int i64 m.c.1),.tr true (T.int i64 m.c.2),.tr true (T.int i64 m.c.3),.tr true (T.int i64 m.c.4),.tr true (T.int i64 m.c.5),.tr true (T.int i64 m.c.6),.tr false (eL 11 Rm.cs m.2),.tr false (eL 1 rowI m.3)])]⟩),(12,⟨z0,[(false,[(C.pt (Pt.ptr 13 0 [] 2 0 0))])]⟩),(13,⟨z0,[(true,[.tr true (T.int i64 h.1),.tr true (T.int i64 h.2)])]⟩),(20,⟨z0,[(false,[.tr true (T.int i64 x20)])]⟩)]
def ex_sRoomOf_1_1 (m:Ml) (h:Hd) (x20:Int):St:=[(16,⟨z0,[(false,[.tr true (T.int i64 x20)])]⟩)]
def ex_sRoomOf_1_2 (m:Ml) (h:Hd) (x20:Int):St:=[(8,⟨z0,[(false,[(C.pt (Pt.ptr 9 0 [] 8 0 0))])]⟩),(9,⟨z0,[(true,[.tr true (T.int i64 m.c.1),.tr true (T.int i64 m.c.2),.tr true (T.int i64 m.c.3),.tr true (T.int i64 m.c.4),.tr true (T.int i64 m.c.5),.tr true (T.int i64 m.c.6),.tr false (eL 11 Rm.cs m.2),.tr false (eL 1 rowI m.3)])]⟩),(12,⟨z0,[(false,[(C.pt (Pt.ptr 13 0 [] 2 0 0))])]⟩),(13,⟨z0,[(true,[.tr true (T.int i64 h.1),.tr true (T.int i64 h.2)])]⟩),(20,⟨z0,[(false,[.tr true (T.int i64 x20)])]⟩),(40,⟨z0,[]⟩)]
theorem round_sRoomOf_1 (m:Ml) (h:Hd) (x20:Int) (n:Nat) (K:Ex→St→Res):roundAt prog (tabS []) kp_sRoomOf F_sRoomOf [1,0,1,0] n (st_sRoomOf_1 m h x20) K=(bif decide (x20 < (↑m.2.length:Int)) then gd (decide (0≤x20)&&(x20.toNat.blt m.2.length&&true))<|gd (T.isI i64 (atL Rm.cs m.2 x20.toNat 0)&&T.isI i64 (atL Rm.cs m.2 x20.toNat 1))<|bif bif (atL Rm.cs m.2 x20.toNat 0).toI == h.1 then bif (atL Rm.cs m.2 x20.toNat 1).toI == h.2 then true else false else false then K .ret (ex_sRoomOf_1_1 m h x20) else K .normal (st_sRoomOf_1 m h (i64.wrap (x20+1))) else K (.exit 0) (ex_sRoomOf_1_2 m h x20)):=by kernel_rfl
theorem post_sRoomOf_1_1 (m:Ml) (h:Hd) (x20:Int) (n:Nat):contAt prog (tabS []) kp_sRoomOf F_sRoomOf ts_sRoomOf [1,0,1,0] [] n .ret (ex_sRoomOf_1_1 m h x20)=(some ([(false,[.tr true (T.int i64 x20)])],[(false,[]),(false,[])])):=by kernel_rfl
theorem post_sRoomOf_1_2 (m:Ml) (h:Hd) (x20:Int) (n:Nat):contAt prog (tabS []) kp_sRoomOf F_sRoomOf ts_sRoomOf [1,0,1,0] [] n (.exit 0) (ex_sRoomOf_1_2 m h x20)=(some ([(false,[.tr true (T.int i64 (-1))])],[(false,[]),(false,[])])):=by kernel_rfl
theorem pre_sRoomOf (m:Ml) (h:Hd) (n:Nat):body prog (tabS []) kp_sRoomOf n F_sRoomOf [aR m.cs,aR h.cs]=(loopAt prog (tabS []) kp_sRoomOf F_sRoomOf [1,0,1,0] n n (st_sRoomOf_1 m h (0)) (contAt prog (tabS []) kp_sRoomOf F_sRoomOf ts_sRoomOf [1,0,1,0] [] n)):=by kernel_rfl
theorem body_sRoomOf (m:Ml) (h:Hd) (h0:ok_sRoomOf (m,h)):body prog (tabS []) kp_sRoomOf (m.rooms.length+1) F_sRoomOf (ea_sRoomOf (m,h))=some (erI 2 (f_sRoomOf (m,h))):=by
 have hlm:=lm
 have hl:m.rooms.length≤LM:=h0
 unfold ea_sRoomOf f_sRoomOf
 try dsimp only
 rw [pre_sRoomOf]
 have hst:st_sRoomOf_1 m h 0=(fun i:Nat=>st_sRoomOf_1 m h (i:Nat)) 0:=rfl
 rw [hst,forExit m.rooms.length (fun i:Nat=>st_sRoomOf_1 m h (i:Nat)) (ex_sRoomOf_1_2 m h m.rooms.length) 0 (fun i=>decide (m.rooms[i]?.map Rm.h=some h)) .ret (fun e=>by cases e) (fun i:Nat=>ex_sRoomOf_1_1 m h (i:Nat)) (fun i K hi=>?_) (fun K=>?_) _ (Nat.le_refl _)]
 ·unfold rof
  cases (List.range m.rooms.length).find? (fun i=>decide (m.rooms[i]?.map Rm.h=some h)) with
  | none=>exact (post_sRoomOf_1_2 m h _ _).trans rfl
  | some i=>exact (post_sRoomOf_1_1 m h _ _).trans rfl
 ·have hx:=List.getElem?_eq_getElem hi
  rw [round_sRoomOf_1]
  simp (disch:=omega) only [rsx0,hi,atL_of hx,hx,Option.map_some,Rm.cs,wrapS,int_eq,cond_tf,cond_bf,Bool.and_true,dec_and,hd_eq]
 ·rw [round_sRoomOf_1]
  simp only [lt_d,Nat.lt_irrefl,decide_false,cond_false]
theorem s_sRoomOf:EntOk prog i_sRoomOf e_sRoomOf:=ent_ok ea_sRoomOf_inj fun x hx =>
 body_sound (φ:=(tabS [])) tabS_nil mixed (kp:=kp_sRoomOf) (n:=x.1.rooms.length+1) func154 (c:=bodyOf F_sRoomOf) (by kernel_rfl) (body_sRoomOf x.1 x.2 hx) (name_ok (by kernel_rfl))
def ok_iRoomOf (x:Ml × Hd):Prop:=x.1.rooms.length≤LM
def ea_iRoomOf (x:Ml × Hd):List Arg:=[aR x.1.cs,aR x.2.cs]
def f_iRoomOf (x:Ml × Hd):Int:=rof x.1.rooms x.2
noncomputable def e_iRoomOf:Ent:=ent [] ok_iRoomOf ea_iRoomOf (erI 2) f_iRoomOf
theorem ea_iRoomOf_inj (x y:Ml × Hd) (h:ea_iRoomOf x=ea_iRoomOf y):x=y:=by
 obtain ⟨m1,h1⟩:=x
 obtain ⟨m2,h2⟩:=y
 simp only [ea_iRoomOf,List.cons.injEq,and_true,true_and] at h
 obtain ⟨e0,e1⟩:=h
 obtain rfl:=Ml.cs_ext (aR_inj e0)
 obtain rfl:=Hd.cs_ext (aR_inj e1)
 rfl
theorem dm_iRoomOf {m:Ml} {h:Hd} (h0:ok_iRoomOf (m,h)):dom ok_iRoomOf ea_iRoomOf [(wMl m),(wHd h)]=true:=dom_ea (ea:=ea_iRoomOf) (x:=(m,h)) h0
theorem iv_iRoomOf {m:Ml} {h:Hd} (h0:ok_iRoomOf (m,h)):inv ok_iRoomOf ea_iRoomOf [(wMl m),(wHd h)]=(m,h):=inv_ea ea_iRoomOf_inj (x:=(m,h)) h0
theorem d_iRoomOf (m:Ml) (h:Hd):f_iRoomOf (m,h)=rof m.rooms h:=rfl
def i_iRoomOf:Nat:=60
noncomputable abbrev F_iRoomOf:Func:=f60
def kp_iRoomOf:List (Nat × List Nat):=[(0,[8,9,12,13]),(1,[16])]
theorem pre_iRoomOf (m:Ml) (h:Hd) (n:Nat):body prog (tabS [(i_ixRm,e_ixRm)]) kp_iRoomOf n F_iRoomOf [aR m.cs,aR h.cs]=(gd (dom ok_ixRm ea_ixRm [(0,false,[C.tr false (eL 11 Rm.cs m.2)]),(0,false,[C.fn 123 [Pt.pim 2 (pimF [T.int i64 h.1,T.int i64 h.2])]])])<|some ([(false,[.tr true (T.int i64 (f_ixRm (inv ok_ixRm ea_ixRm [(0,false,[C.tr false (eL 11 Rm.cs m.2)]),(0,false,[C.fn 123 [Pt.pim 2 (pimF [T.int i64 h.1,T.int i64 h.2])]])])))])],[(false,[]),(false,[])])):=by kernel_rfl
theorem body_iRoomOf (m:Ml) (h:Hd) (n:Nat) (h0:ok_iRoomOf (m,h)):body prog (tabS [(i_ixRm,e_ixRm)]) kp_iRoomOf n F_iRoomOf (ea_iRoomOf (m,h))=some (erI 2 (f_iRoomOf (m,h))):=by
 have c:ok_ixRm (m.rooms,h):=h0
 unfold ea_iRoomOf f_iRoomOf
 try dsimp only
 rw [pre_iRoomOf]
 try simp only [eL_T,dm_ixRm c,iv_ixRm c,d_ixRm,gdt]
 rfl
theorem s_iRoomOf:EntOk prog i_iRoomOf e_iRoomOf:=ent_ok ea_iRoomOf_inj fun x hx =>
 body_sound (φ:=(tabS [(i_ixRm,e_ixRm)])) (tabS_cons s_ixRm tabS_nil) mixed (kp:=kp_iRoomOf) (n:=0) func60 (c:=bodyOf F_iRoomOf) (by kernel_rfl) (body_iRoomOf x.1 x.2 (0) hx) (name_ok (by kernel_rfl))
end Go.Mach.F
