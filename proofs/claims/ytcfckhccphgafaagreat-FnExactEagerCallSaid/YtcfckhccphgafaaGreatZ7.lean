/- Lemmas and definitions of the proof (Qf Tc Ub Uc Ud Pa Pb Pc Pd Dg Dh Di Dj Dk). Conditions: none. -/
import Derived.Test.YtcfckhccphgafaaGreatZ6
set_option linter.all false
namespace Go.Mach.F
open Go Go.Mach Go.Proofs.Tryz Go.IntKind
theorem app_thing {l:List Rm} {j:Nat} {y:Rm} (hy:l[j]?=some y) (b:List UInt8):setF j 9 (T.arr 1 (y.things.length+1) (appF y.things.length (atL Sf.cs y.things) (rowsT [[T.arr 1 b.length (atL rowB b)]]))) (setF j 9 T.hole (atL Rm.cs l))=atL Rm.cs (l.set j { y with things:=y.things ++ [⟨b⟩] }):=by
 rw [setF_setF,show [T.arr 1 b.length (atL rowB b)]=Sf.cs ⟨b⟩ from rfl,rows1 Sf.cs,appF_app]
 exact setF_list hy (by simp only [Rm.cs,eL_T,List.length_append];rfl) (by decide:9 < 11)
theorem zero5 (n:Nat):cutT 0 n (zeroT prog 5)=atL rowB (List.replicate n 0):=zero_fill (m:=1) (row:=rowB) (d:=0) n (fun j k=>by rcases k with _ | _ <;> kernel_rfl)
theorem szOk_of {sz al:Int} (h:szOk sz al=true):(1≤sz∧sz≤200)∧isAl al=true:=by
 simp only [szOk,inR,Bool.and_eq_true,decide_eq_true_eq] at h
 exact h
theorem body_iEagerAlloc (m:Ml) (h:Hd) (sz al:Int) (fr:Bool) (n:Nat) (h0:ok_iEagerAlloc (m,h,sz,al,fr)):body prog tb30 kp_iEagerAlloc n F_iEagerAlloc (ea_iEagerAlloc (m,h,sz,al,fr))=some ([oR (f_iEagerAlloc (m,h,sz,al,fr)).1.cs,oT (.int .i64 (f_iEagerAlloc (m,h,sz,al,fr)).2)],[nul,nul,nul,nul,nul]):=by
 have hlm:=lm
 obtain ⟨h1,h2⟩:ok_RmS m.rooms∧ok_LI m.log:=h0
 have hl:m.rooms.length≤LM:=h1.1
 have c0:ok_iModel m:=⟨h1,h2⟩
 have c1:ok_iRsv (m,h):=hl
 have c2:ok_iTakenBy m:=hl
 have c4:ok_iCeilDiv (sz,m.c.size):=trivial
 unfold ea_iEagerAlloc f_iEagerAlloc alcM
 dsimp only
 rw [pre_iEagerAlloc]
 try simp only [eL_T,Ml.cs,Hd.cs]
 rw [entK_of (dm_iModel c0) (iv_iModel c0)]
 simp only [d_iModel,rsx0,ble_d,Nat.le_refl]
 have c6:ok_iSzOk (sz,al):=trivial
 rw [entK_of (dm_iSzOk c6) (iv_iSzOk c6)]
 simp only [d_iSzOk]
 cases hsz:szOk sz al with
 | false =>
  simp only [Bool.not_false,cond_true,cond_false]
  rfl
 | true =>
 have hz:=(szOk_of hsz).1
 simp only [Bool.not_true,cond_true,cond_false]
 rw [entK_of (dm_iRsv c1) (iv_iRsv c1)]
 simp only [d_iRsv,int_ne,int_eq]
 by_cases e:(rsv m h).2=0
 case neg =>
  simp only [e,decide_false,Bool.not_false,cond_true,cond_false]
  rfl
 have hk:=rsv_ok e
 have hx:=getD_get hk.2
 unfold alcR needC rmJ
 obtain ⟨x,hxe⟩:∃ x,x=m.rooms.getD (rsv m h).1.toNat zRm:=⟨_,rfl⟩
 rw [← hxe] at hx ⊢
 have hy:=h1.2 _ (List.mem_of_getElem? hx)
 have hg:x.things.length≤LM:=hy.2.1.1
 have e0:=hk.1
 have e1:=hk.2
 have s1:(x.things.length+1) * 24≤70368744177664:=by omega
 have s2:x.things.length+1≤70368744177664:=by omega
 have s3:sz.toNat * 1≤70368744177664:=by omega
 have s4:sz.toNat≤70368744177664:=by omega
 have s5:0≤sz:=by omega
 have c3:ok_iAlignUp (x.bump,al):=trivial
 have c5:ok_iAlignUp (0,al):=trivial
 have h6:∀ b:Int,setF (rsv m h).1.toNat 6 (.int .i64 (i64.wrap (x.chunks+b))) (atL Rm.cs m.rooms)=atL Rm.cs (m.rooms.set (rsv m h).1.toNat (bigR x b)):=fun b=>setF_list hx rfl (by decide:6 < 11)
 have hb6:∀ b:Int,(m.rooms.set (rsv m h).1.toNat (bigR x b))[(rsv m h).1.toNat]?=some (bigR x b):=fun b=>set_get hx
 have h9:∀ (y:Rm) (b:List UInt8),setF (rsv m h).1.toNat 9 (T.arr 1 (y.things.length+1) (appF y.things.length (atL Sf.cs y.things) (rowsT [[T.arr 1 b.length (atL rowB b)]]))) (setF (rsv m h).1.toNat 9 T.hole (atL Rm.cs (m.rooms.set (rsv m h).1.toNat y)))=atL Rm.cs (m.rooms.set (rsv m h).1.toNat { y with things:=y.things ++ [⟨b⟩] }):=fun y b=>by
  rw [app_thing (set_get hx),List.set_set]
 simp only [rsx0,e,e0,e1,Nat.add_zero,atL_of hx,Rm.cs,T.get,ble_d,Nat.le_refl,Int.le_refl,zero5,s1,s2,s3,s4,s5]
 by_cases a3:12≤(x.things.length:Int)
 ·simp only [a3,decide_true,cond_true,int_eq]
  rfl
 simp only [a3,decide_false,cond_false,setJ]
 by_cases a4:m.c.size < sz
 ·simp only [a4,decide_true,cond_true]
  rw [entK_of (dm_iCeilDiv c4) (iv_iCeilDiv c4)]
  simp only [d_iCeilDiv]
  rw [entK_of (dm_iTakenBy c2) (iv_iTakenBy c2)]
  simp only [d_iTakenBy]
  by_cases a5:m.c.chunks < i64.wrap (tkn m.rooms+cdv sz m.c.size)
  ·simp only [a5,decide_true,cond_true]
   rfl
  simp only [a5,decide_false,cond_false]
  cases fr with
  | true=>rfl
  | false =>
   have hh:=h9 (bigR x (cdv sz m.c.size)) (List.replicate sz.toNat 0)
   have s6:((bigR x (cdv sz m.c.size)).things.length+1) * 24≤70368744177664:=s1
   have s7:(bigR x (cdv sz m.c.size)).things.length+1≤70368744177664:=s2
   simp only [List.length_replicate] at hh
   simp only [cond_false,h6,atL_of (hb6 _),Rm.cs,rsx0,Nat.le_refl,ble_d,s6,s7,hh,T.get,e1,Bool.not_false]
   simp only [oR,Ml.cs,thgR,eL_T,List.length_set]
   rfl
 simp only [a4,decide_false,cond_false]
 have h8:∀ b:Int,setF (rsv m h).1.toNat 8 (.int .i64 b) (setF (rsv m h).1.toNat 8 (.int .i64 0) (setF (rsv m h).1.toNat 7 (.bool true) (setF (rsv m h).1.toNat 6 (.int .i64 (i64.wrap (x.chunks+1))) (atL Rm.cs m.rooms))))=atL Rm.cs (m.rooms.set (rsv m h).1.toNat { x with chunks:=i64.wrap (x.chunks+1),cur:=true,bump:=b }):=fun b=>by
  rw [setF_setF,h6,setF_list (y:={ x with chunks:=i64.wrap (x.chunks+1),cur:=true }) (set_get hx) rfl (by decide:7 < 11),List.set_set,
   setF_list (y:={ x with chunks:=i64.wrap (x.chunks+1),cur:=true,bump:=b }) (set_get hx) rfl (by decide:8 < 11),List.set_set]
 have hb8:∀ b:Int,(m.rooms.set (rsv m h).1.toNat { x with chunks:=i64.wrap (x.chunks+1),cur:=true,bump:=b })[(rsv m h).1.toNat]?=some { x with chunks:=i64.wrap (x.chunks+1),cur:=true,bump:=b }:=fun b=>set_get hx
 have h8b:∀ b:Int,setF (rsv m h).1.toNat 8 (.int .i64 b) (atL Rm.cs m.rooms)=atL Rm.cs (m.rooms.set (rsv m h).1.toNat { x with bump:=b }):=fun b=>setF_list hx rfl (by decide:8 < 11)
 have hb8b:∀ b:Int,(m.rooms.set (rsv m h).1.toNat { x with bump:=b })[(rsv m h).1.toNat]?=some { x with bump:=b }:=fun b=>set_get hx
 have new:∀ (b:Int),_:=fun b=>h9 { x with chunks:=i64.wrap (x.chunks+1),cur:=true,bump:=b } (List.replicate sz.toNat 0)
 have old:∀ (b:Int),_:=fun b=>h9 { x with bump:=b } (List.replicate sz.toNat 0)
 simp only [List.length_replicate] at new old
 cases hc:x.cur with
 | false =>
  simp only [Bool.not_false,cond_true,Bool.true_or,Bool.true_and]
  rw [entK_of (dm_iTakenBy c2) (iv_iTakenBy c2)]
  simp only [d_iTakenBy]
  by_cases a5:m.c.chunks < i64.wrap (tkn m.rooms+1)
  ·simp only [a5,decide_true,cond_true]
   rfl
  simp only [a5,decide_false,cond_false,setF_at,isI_int,toI_int,gdt]
  rw [entK_of (dm_iAlignUp c5) (iv_iAlignUp c5)]
  simp only [d_iAlignUp,h8,atL_of (hb8 _),Rm.cs,rsx0,Nat.le_refl,ble_d,s1,s2,new,T.get,e1]
  simp only [oR,Ml.cs,thgR,smlR,cond_true,eL_T,List.length_set]
  rfl
 | true =>
  simp only [Bool.not_true,cond_false,Bool.false_or]
  rw [entK_of (dm_iAlignUp c3) (iv_iAlignUp c3)]
  simp only [d_iAlignUp]
  by_cases a6:m.c.size < i64.wrap (aup x.bump al+sz)
  ·simp only [a6,decide_true,cond_true,Bool.true_and]
   rw [entK_of (dm_iTakenBy c2) (iv_iTakenBy c2)]
   simp only [d_iTakenBy]
   by_cases a5:m.c.chunks < i64.wrap (tkn m.rooms+1)
   ·simp only [a5,decide_true,cond_true]
    rfl
   simp only [a5,decide_false,cond_false,setF_at,isI_int,toI_int,gdt]
   rw [entK_of (dm_iAlignUp c5) (iv_iAlignUp c5)]
   simp only [d_iAlignUp,h8,atL_of (hb8 _),Rm.cs,rsx0,Nat.le_refl,ble_d,s1,s2,new,T.get,e1]
   simp only [oR,Ml.cs,thgR,smlR,cond_true,eL_T,List.length_set]
   rfl
  simp only [a6,decide_false,cond_false,Bool.false_and]
  rw [entK_of (dm_iAlignUp c3) (iv_iAlignUp c3)]
  simp only [d_iAlignUp,h8b,atL_of (hb8b _),Rm.cs,rsx0,Nat.le_refl,ble_d,s1,s2,old,T.get,e1]
  simp only [oR,Ml.cs,thgR,smlR,cond_false,eL_T,List.length_set]
  rfl
theorem s_iEagerAlloc:EntOk prog i_iEagerAlloc e_iEagerAlloc:=ent_ok ea_iEagerAlloc_inj fun x hx =>
 body_sound (φ:=tb30) (tabS_cons s_iModel (tabS_cons s_iSzOk (tabS_cons s_iRsv (tabS_cons s_isLg (tabS_cons s_iCF (tabS_cons s_itakes (tabS_cons s_iAlignUp tabS_nil))))))) mixed (kp:=kp_iEagerAlloc) (n:=0) func59 (c:=bodyOf F_iEagerAlloc) (by kernel_rfl) (body_iEagerAlloc x.1 x.2.1 x.2.2.1 x.2.2.2.1 x.2.2.2.2 (0) hx) (name_ok (by kernel_rfl))
theorem smlR_things (x:Rm) (b:Bool) (sz al:Int):(smlR x b sz al).things=x.things:=by cases b <;> rfl
theorem zer_of {sz:Int} (h:1≤sz∧sz≤200):zer sz=List.replicate sz.toNat 0:=by
 have a:0≤sz:=by omega
 have b:sz≤4096:=by omega
 simp only [zer,inR,a,b,decide_true,Bool.and_self,cond_true]
theorem body_sEagerAlloc (m:Ml) (h:Hd) (sz al:Int) (fr:Bool) (n:Nat) (h0:ok_sEagerAlloc (m,h,sz,al,fr)):body prog tb31 kp_sEagerAlloc n F_sEagerAlloc (ea_sEagerAlloc (m,h,sz,al,fr))=some ([oR (f_sEagerAlloc (m,h,sz,al,fr)).1.cs,oT (.int .i64 (f_sEagerAlloc (m,h,sz,al,fr)).2)],[nul,nul,nul,nul,nul]):=by
 have hlm:=lm
 obtain ⟨h1,h2⟩:ok_RmS m.rooms∧ok_LI m.log:=h0
 have hl:m.rooms.length≤LM:=h1.1
 have c0:ok_sModel m:=⟨h1,h2⟩
 have c1:ok_sRsv (m,h):=hl
 have c2:ok_sTakenBy m:=hl
 have c4:ok_sCeilDiv (sz,m.c.size):=trivial
 unfold ea_sEagerAlloc f_sEagerAlloc alcM
 dsimp only
 rw [pre_sEagerAlloc]
 try simp only [eL_T,Ml.cs,Hd.cs]
 rw [entK_of (dm_sModel c0) (iv_sModel c0)]
 simp only [d_sModel,rsx0,ble_d,Nat.le_refl]
 have c6:ok_sAlg al:=trivial
 have c8:ok_sZeros sz:=trivial
 by_cases z1:1≤sz
 case neg =>
  rw [show szOk sz al=false by simp only [szOk,inR,z1,decide_false,Bool.false_and]]
  simp only [z1,decide_false,cond_false]
  rfl
 by_cases z2:sz≤200
 case neg =>
  rw [show szOk sz al=false by simp only [szOk,inR,z2,decide_false,Bool.and_false,Bool.false_and]]
  simp only [z1,z2,decide_true,decide_false,cond_true,cond_false,Bool.not_false]
  rfl
 simp only [z1,z2,decide_true,cond_true,cond_false,Bool.not_true]
 rw [entK_of (dm_sAlg c6) (iv_sAlg c6)]
 simp only [d_sAlg]
 rw [show szOk sz al=isAl al by simp only [szOk,inR,z1,z2,decide_true,Bool.true_and]]
 have hz:1≤sz∧sz≤200:=⟨z1,z2⟩
 cases hal:isAl al with
 | false =>
  simp only [Bool.not_false,cond_true,cond_false]
  rfl
 | true =>
 simp only [Bool.not_true,cond_true,cond_false]
 rw [entK_of (dm_sRsv c1) (iv_sRsv c1)]
 simp only [d_sRsv,int_ne,int_eq]
 by_cases e:(rsv m h).2=0
 case neg =>
  simp only [e,decide_false,Bool.not_false,cond_true,cond_false]
  rfl
 have hk:=rsv_ok e
 have hx:=getD_get hk.2
 unfold alcR needC rmJ
 obtain ⟨x,hxe⟩:∃ x,x=m.rooms.getD (rsv m h).1.toNat zRm:=⟨_,rfl⟩
 rw [← hxe] at hx ⊢
 have hy:=h1.2 _ (List.mem_of_getElem? hx)
 have hg:x.things.length≤LM:=hy.2.1.1
 have e0:=hk.1
 have e1:=hk.2
 have s1:(x.things.length+1) * 24≤70368744177664:=by omega
 have s2:x.things.length+1≤70368744177664:=by omega
 have s3:sz.toNat * 1≤70368744177664:=by omega
 have s4:sz.toNat≤70368744177664:=by omega
 have s5:0≤sz:=by omega
 have c3:ok_sAlignUp (x.bump,al):=trivial
 have c5:ok_sAlignUp (0,al):=trivial
 have h6:∀ b:Int,setF (rsv m h).1.toNat 6 (.int .i64 (i64.wrap (x.chunks+b))) (atL Rm.cs m.rooms)=atL Rm.cs (m.rooms.set (rsv m h).1.toNat (bigR x b)):=fun b=>setF_list hx rfl (by decide:6 < 11)
 have hb6:∀ b:Int,(m.rooms.set (rsv m h).1.toNat (bigR x b))[(rsv m h).1.toNat]?=some (bigR x b):=fun b=>set_get hx
 have h9:∀ (y:Rm) (b:List UInt8),setF (rsv m h).1.toNat 9 (T.arr 1 (y.things.length+1) (appF y.things.length (atL Sf.cs y.things) (rowsT [[T.arr 1 b.length (atL rowB b)]]))) (setF (rsv m h).1.toNat 9 T.hole (atL Rm.cs (m.rooms.set (rsv m h).1.toNat y)))=atL Rm.cs (m.rooms.set (rsv m h).1.toNat { y with things:=y.things ++ [⟨b⟩] }):=fun y b=>by
  rw [app_thing (set_get hx),List.set_set]
 simp only [rsx0,e,e0,e1,Nat.add_zero,atL_of hx,Rm.cs,T.get,ble_d,Nat.le_refl,Int.le_refl,zero5,s1,s2,s3,s4,s5]
 by_cases a3:12≤(x.things.length:Int)
 ·simp only [a3,decide_true,cond_true,int_eq]
  rfl
 simp only [a3,decide_false,cond_false,setJ]
 have hz0:=zer_of hz
 by_cases a4:m.c.size < sz
 ·simp only [a4,decide_true,Bool.not_true,cond_false,cond_true]
  rw [entK_of (dm_sCeilDiv c4) (iv_sCeilDiv c4)]
  simp only [d_sCeilDiv]
  rw [entK_of (dm_sTakenBy c2) (iv_sTakenBy c2)]
  simp only [d_sTakenBy]
  by_cases a5:m.c.chunks < i64.wrap (tkn m.rooms+cdv sz m.c.size)
  ·simp only [a5,decide_true,cond_true]
   rw [entK_of (dm_sModel c0) (iv_sModel c0)]
   simp only [d_sModel,rsx0,ble_d,Nat.le_refl]
   rfl
  simp only [a5,decide_false,cond_false]
  cases fr with
  | true =>
   simp only [cond_true]
   rw [entK_of (dm_sModel c0) (iv_sModel c0)]
   simp only [d_sModel,rsx0,ble_d,Nat.le_refl]
   rfl
  | false =>
   have hh:=h9 (bigR x (cdv sz m.c.size)) (List.replicate sz.toNat 0)
   have s6:((bigR x (cdv sz m.c.size)).things.length+1) * 24≤70368744177664:=s1
   have s7:(bigR x (cdv sz m.c.size)).things.length+1≤70368744177664:=s2
   simp only [cond_false,h6,atL_of (hb6 _),Rm.cs,rsx0,Nat.le_refl,ble_d,T.get,e1,Bool.not_false]
   rw [entK_of (dm_sZeros c8) (iv_sZeros c8)]
   simp only [d_sZeros,hz0,rsx0,Nat.le_refl,ble_d,s6,s7,hh,e1]
   simp only [oR,Ml.cs,thgR,eL_T,List.length_set]
   rfl
 simp only [a4,decide_false,Bool.not_false,cond_false,cond_true]
 have c7:ok_sSml (m,(rsv m h).1,sz,al):=⟨hl,e0,e1⟩
 rw [entK_of (dm_sSml c7) (iv_sSml c7)]
 have hsm:smlM m (rsv m h).1 sz al=bif (!x.cur || decide (m.c.size < i64.wrap (aup x.bump al+sz)))&&decide (m.c.chunks < i64.wrap (tkn m.rooms+1)) then (m,5) else (setJ m (rsv m h).1 (smlR x (!x.cur || decide (m.c.size < i64.wrap (aup x.bump al+sz))) sz al),0):=by
  unfold smlM needC rmJ
  rw [← hxe]
 simp only [d_sSml,hsm]
 generalize (!x.cur || decide (m.c.size < i64.wrap (aup x.bump al+sz)))=N
 cases (N&&decide (m.c.chunks < i64.wrap (tkn m.rooms+1))) with
 | true =>
  simp only [cond_true,show ¬ (5:Int)=0 by decide,decide_false,Bool.not_false]
  rw [entK_of (dm_sModel c0) (iv_sModel c0)]
  simp only [d_sModel,rsx0,ble_d,Nat.le_refl]
  rfl
 | false =>
  have hb:=set_get (y:=smlR x N sz al) hx
  have ht:=smlR_things x N sz al
  have hh:=h9 (smlR x N sz al) (List.replicate sz.toNat 0)
  rw [ht] at hh
  simp only [cond_false,setJ,decide_true,Bool.not_true,rsx0,atL_of hb,Rm.cs,ht,List.length_set,e1,T.get,s1,s2,ble_d,Nat.le_refl]
  rw [entK_of (dm_sZeros c8) (iv_sZeros c8)]
  simp only [d_sZeros,hz0,rsx0,Nat.le_refl,ble_d,s1,s2,hh,e1,List.length_set]
  simp only [oR,Ml.cs,thgR,ht,eL_T,List.length_set]
  rfl
theorem s_sEagerAlloc:EntOk prog i_sEagerAlloc e_sEagerAlloc:=ent_ok ea_sEagerAlloc_inj fun x hx =>
 body_sound (φ:=tb31) (tabS_cons s_sModel (tabS_cons s_l1In (tabS_cons s_sAlg (tabS_cons s_sRsv (tabS_cons s_ssLg (tabS_cons s_sSml (tabS_cons s_sCF (tabS_cons s_sTakenBy (tabS_cons s_sZeros tabS_nil))))))))) mixed (kp:=kp_sEagerAlloc) (n:=0) func101 (c:=bodyOf F_sEagerAlloc) (by kernel_rfl) (body_sEagerAlloc x.1 x.2.1 x.2.2.1 x.2.2.2.1 x.2.2.2.2 (0) hx) (name_ok (by kernel_rfl))
end Go.Mach.F
namespace Go.Mach.F
open Go Go.Mach Go.Proofs.Tryz Go.IntKind
--=set_option maxRecDepth 100000
def gat (l:List UInt8) (k c:Int):List UInt8 × Bool:=bif ((decide (0≤c)&&decide (c≤(l.length:Int)))&&(decide (0≤k)&&decide (k≤(l.length:Int) - c))) then ((l.drop k.toNat).take c.toNat,true) else ([],false)
def ok_iGetAt (x:List UInt8 × Int × Int):Prop:=x.1.length≤LM
def ea_iGetAt (x:List UInt8 × Int × Int):List Arg:=[aT (eB x.1),aI x.2.1,aI x.2.2]
def f_iGetAt (x:List UInt8 × Int × Int):List UInt8 × Bool:=gat x.1 x.2.1 x.2.2
noncomputable def e_iGetAt:Ent:=ent [] ok_iGetAt ea_iGetAt (fun (x:List UInt8 × Bool)=>([oT (eB x.1),oT (.bool x.2)],[nul,nul,nul])) f_iGetAt
theorem ea_iGetAt_inj (x y:List UInt8 × Int × Int) (h:ea_iGetAt x=ea_iGetAt y):x=y:=by
 obtain ⟨l1,k1,c1⟩:=x
 obtain ⟨l2,k2,c2⟩:=y
 simp only [ea_iGetAt,List.cons.injEq,and_true,true_and] at h
 obtain ⟨e0,e1,e2⟩:=h
 obtain rfl:=eB_inj (aT_inj e0)
 obtain rfl:=aI_inj e1
 obtain rfl:=aI_inj e2
 rfl
theorem dm_iGetAt {l:List UInt8} {k:Int} {c:Int} (h:ok_iGetAt (l,k,c)):dom ok_iGetAt ea_iGetAt [(0,false,[C.tr false (T.arr 1 l.length (atL rowB l))]),(0,false,[C.tr false (T.int i64 k)]),(0,false,[C.tr false (T.int i64 c)])]=true:=dom_ea (ea:=ea_iGetAt) (x:=(l,k,c)) h
theorem iv_iGetAt {l:List UInt8} {k:Int} {c:Int} (h:ok_iGetAt (l,k,c)):inv ok_iGetAt ea_iGetAt [(0,false,[C.tr false (T.arr 1 l.length (atL rowB l))]),(0,false,[C.tr false (T.int i64 k)]),(0,false,[C.tr false (T.int i64 c)])]=(l,k,c):=inv_ea ea_iGetAt_inj (x:=(l,k,c)) h
theorem d_iGetAt (l:List UInt8) (k:Int) (c:Int):f_iGetAt (l,k,c)=gat l k c:=rfl
def i_iGetAt:Nat:=125
noncomputable abbrev F_iGetAt:Func:=f125
def kp_iGetAt:List (Nat × List Nat):=[(0,[0,4,8]),(1,[0,4,8,52]),(2,[24,28]),(3,[24,28])]
noncomputable abbrev tb32:Sems:=tabS [(i_ihas,e_ihas),(i_clB,e_clB)]
theorem pre_iGetAt (l:List UInt8) (k:Int) (c:Int) (n:Nat):body prog tb32 kp_iGetAt n F_iGetAt [aT (eB l),aI k,aI c]=(bif decide (0≤c) then bif decide (c≤(↑l.length:Int)) then bif decide (0≤k) then bif !decide (k≤i64.wrap ((↑l.length:Int) - c)) then some ([(false,[.tr true (.arr (1) (0) (fun x x_1=>T.hole))]),(false,[.tr true (T.bool false)])],[(false,[]),(false,[]),(false,[])]) else gd (decide (0≤k)&&(decide (k≤i64.wrap (k+c))&&decide (i64.wrap (k+c)≤(↑l.length:Int))))<|entK ok_clB ea_clB (f_clB) [(0,false,[C.tr false (T.arr 1 ((i64.wrap (k+c)).toNat - k.toNat) (cutT k.toNat ((i64.wrap (k+c)).toNat - k.toNat) (atL rowB l)))])] fun (r1:List UInt8)=>gl r1.length<|gl r1.length<|some ([(false,[.tr true (.arr (1) (r1.length) (atL rowB r1))]),(false,[.tr true (T.bool true)])],[(false,[]),(false,[]),(false,[])]) else some ([(false,[.tr true (.arr (1) (0) (fun x x_1=>T.hole))]),(false,[.tr true (T.bool false)])],[(false,[]),(false,[]),(false,[])]) else some ([(false,[.tr true (.arr (1) (0) (fun x x_1=>T.hole))]),(false,[.tr true (T.bool false)])],[(false,[]),(false,[]),(false,[])]) else some ([(false,[.tr true (.arr (1) (0) (fun x x_1=>T.hole))]),(false,[.tr true (T.bool false)])],[(false,[]),(false,[]),(false,[])])):=by kernel_rfl
def ok_sGetAt (x:List UInt8 × Int × Int):Prop:=x.1.length≤LM
def ea_sGetAt (x:List UInt8 × Int × Int):List Arg:=[aT (eB x.1),aI x.2.1,aI x.2.2]
def f_sGetAt (x:List UInt8 × Int × Int):List UInt8 × Bool:=gat x.1 x.2.1 x.2.2
noncomputable def e_sGetAt:Ent:=ent [] ok_sGetAt ea_sGetAt (fun (x:List UInt8 × Bool)=>([oT (eB x.1),oT (.bool x.2)],[nul,nul,nul])) f_sGetAt
theorem ea_sGetAt_inj (x y:List UInt8 × Int × Int) (h:ea_sGetAt x=ea_sGetAt y):x=y:=by
 obtain ⟨l1,k1,c1⟩:=x
 obtain ⟨l2,k2,c2⟩:=y
 simp only [ea_sGetAt,List.cons.injEq,and_true,true_and] at h
 obtain ⟨e0,e1,e2⟩:=h
 obtain rfl:=eB_inj (aT_inj e0)
 obtain rfl:=aI_inj e1
 obtain rfl:=aI_inj e2
 rfl
theorem dm_sGetAt {l:List UInt8} {k:Int} {c:Int} (h:ok_sGetAt (l,k,c)):dom ok_sGetAt ea_sGetAt [(0,false,[C.tr false (T.arr 1 l.length (atL rowB l))]),(0,false,[C.tr false (T.int i64 k)]),(0,false,[C.tr false (T.int i64 c)])]=true:=dom_ea (ea:=ea_sGetAt) (x:=(l,k,c)) h
theorem iv_sGetAt {l:List UInt8} {k:Int} {c:Int} (h:ok_sGetAt (l,k,c)):inv ok_sGetAt ea_sGetAt [(0,false,[C.tr false (T.arr 1 l.length (atL rowB l))]),(0,false,[C.tr false (T.int i64 k)]),(0,false,[C.tr false (T.int i64 c)])]=(l,k,c):=inv_ea ea_sGetAt_inj (x:=(l,k,c)) h
theorem d_sGetAt (l:List UInt8) (k:Int) (c:Int):f_sGetAt (l,k,c)=gat l k c:=rfl
def i_sGetAt:Nat:=104
noncomputable abbrev F_sGetAt:Func:=f104
def kp_sGetAt:List (Nat × List Nat):=[(0,[0,4,8]),(1,[0,4,8,48]),(2,[24,28]),(3,[24,28])]
noncomputable abbrev tb33:Sems:=tabS [(i_l2There,e_l2There)]
theorem pre_sGetAt (l:List UInt8) (k:Int) (c:Int) (n:Nat):body prog tb33 kp_sGetAt n F_sGetAt [aT (eB l),aI k,aI c]=(bif decide (0≤k) then bif decide (0≤c) then bif decide (k≤(↑l.length:Int)) then bif !decide (c≤i64.wrap ((↑l.length:Int) - k)) then some ([(false,[.tr true (.arr (1) (0) (rowsT []))]),(false,[.tr true (T.bool false)])],[(false,[]),(false,[]),(false,[])]) else gd (decide (0≤k)&&(decide (k≤i64.wrap (k+c))&&decide (i64.wrap (k+c)≤(↑l.length:Int))))<|gd (((0+((i64.wrap (k+c)).toNat - k.toNat)) * 1).ble 70368744177664&&(0+((i64.wrap (k+c)).toNat - k.toNat)).ble 70368744177664)<|gd ((0+((i64.wrap (k+c)).toNat - k.toNat)).ble (0+((i64.wrap (k+c)).toNat - k.toNat))&&true)<|gd ((0+((i64.wrap (k+c)).toNat - k.toNat)).ble (0+((i64.wrap (k+c)).toNat - k.toNat))&&true)<|some ([(false,[.tr true (.arr (1) (0+((i64.wrap (k+c)).toNat - k.toNat)) (appF 0 (rowsT []) (plainF (cutT k.toNat ((i64.wrap (k+c)).toNat - k.toNat) (atL rowB l)))))]),(false,[.tr true (T.bool true)])],[(false,[]),(false,[]),(false,[])]) else some ([(false,[.tr true (.arr (1) (0) (rowsT []))]),(false,[.tr true (T.bool false)])],[(false,[]),(false,[]),(false,[])]) else some ([(false,[.tr true (.arr (1) (0) (rowsT []))]),(false,[.tr true (T.bool false)])],[(false,[]),(false,[]),(false,[])]) else some ([(false,[.tr true (.arr (1) (0) (rowsT []))]),(false,[.tr true (T.bool false)])],[(false,[]),(false,[]),(false,[])])):=by kernel_rfl
end Go.Mach.F
namespace Go.Mach.F
open Go Go.Mach Go.Proofs.Tryz Go.IntKind
theorem gat_false {l:List UInt8} {k c:Int} (h1:¬ (0≤c∧c≤(l.length:Int)∧0≤k∧k≤(l.length:Int) - c)):((decide (0≤c)&&decide (c≤(l.length:Int)))&&(decide (0≤k)&&decide (k≤(l.length:Int) - c)))=false:=by
 cases hb:((decide (0≤c)&&decide (c≤(l.length:Int)))&&(decide (0≤k)&&decide (k≤(l.length:Int) - c))) with
 | false=>rfl
 | true =>
  simp only [Bool.and_eq_true,decide_eq_true_eq] at hb
  exact absurd ⟨hb.1.1,hb.1.2,hb.2.1,hb.2.2⟩ h1
theorem body_iGetAt (l:List UInt8) (k c:Int) (n:Nat) (h:ok_iGetAt (l,k,c)):body prog tb32 kp_iGetAt n F_iGetAt (ea_iGetAt (l,k,c))=some ([oT (eB (f_iGetAt (l,k,c)).1),oT (.bool (f_iGetAt (l,k,c)).2)],[nul,nul,nul]):=by
 have hlm:=lm
 have hl:l.length≤LM:=h
 unfold ea_iGetAt f_iGetAt gat
 dsimp only
 rw [pre_iGetAt]
 by_cases h1:0≤c∧c≤(l.length:Int)∧0≤k∧k≤(l.length:Int) - c
 ·obtain ⟨a1,a2,a3,a4⟩:=h1
  have a5:k≤(l.length:Int):=by omega
  have a6:c≤(l.length:Int) - k:=by omega
  have w1:i64.wrap ((l.length:Int) - c)=(l.length:Int) - c:=by rw [IntKind.wrap_i64];omega
  have w2:i64.wrap ((l.length:Int) - k)=(l.length:Int) - k:=by rw [IntKind.wrap_i64];omega
  have w3:i64.wrap (k+c)=k+c:=by rw [IntKind.wrap_i64];omega
  have a7:k≤k+c:=by omega
  have a8:k+c≤(l.length:Int):=by omega
  have w4:(k+c).toNat - k.toNat=c.toNat:=by omega
  have hc:=cut_eL (m:=1) (row:=rowB) (l:=l) (s:=k.toNat) (n:=c.toNat) (by omega)
  have hle:((l.drop k.toNat).take c.toNat).length=c.toNat:=by simp;omega
  try simp only [eL_T,arr_fn,hle] at hc
  injection hc with _ _ hc
  have c0:ok_clB ((l.drop k.toNat).take c.toNat):=by unfold ok_clB;rw [hle];omega
  have s1:c.toNat * 1≤70368744177664:=by omega
  have s2:c.toNat≤70368744177664:=by omega
  have e1:appF 0 (rowsT []) (plainF (atL rowB ((l.drop k.toNat).take c.toNat)))=atL rowB ((l.drop k.toNat).take c.toNat):=by rw [plain_B,app0]
  simp only [a1,a2,a3,a4,a5,a6,a7,a8,w1,w2,w3,w4,decide_true,cond_true,Bool.and_self,Bool.not_true,cond_false,rsx0,hc,ble_d,s1,s2,Nat.le_refl,e1]
  have d1:=dm_clB c0
  have d2:=iv_clB c0
  rw [hle] at d1 d2
  rw [entK_of d1 d2]
  simp only [d_clB,rsx0,ble_d,Nat.le_refl,hle]
  simp only [oT,eL_T,hle]
  rfl
 ·rw [gat_false h1]
  by_cases a1:0≤c
  case neg =>
   simp only [a1,decide_false,cond_false]
   rfl
  by_cases a2:c≤(l.length:Int)
  case neg =>
   simp only [a1,a2,decide_true,decide_false,cond_true,cond_false]
   rfl
  by_cases a3:0≤k
  case neg =>
   simp only [a1,a2,a3,decide_true,decide_false,cond_true,cond_false]
   rfl
  have w1:i64.wrap ((l.length:Int) - c)=(l.length:Int) - c:=by rw [IntKind.wrap_i64];omega
  have a4:¬ k≤(l.length:Int) - c:=fun e=>h1 ⟨a1,a2,a3,e⟩
  simp only [a1,a2,a3,w1,a4,decide_true,decide_false,cond_true,cond_false,Bool.not_false]
  rfl
theorem s_iGetAt:EntOk prog i_iGetAt e_iGetAt:=ent_ok ea_iGetAt_inj fun x hx =>
 body_sound (φ:=tb32) (tabS_cons s_ihas (tabS_cons s_clB tabS_nil)) mixed (kp:=kp_iGetAt) (n:=0) func125 (c:=bodyOf F_iGetAt) (by kernel_rfl) (body_iGetAt x.1 x.2.1 x.2.2 (0) hx) (name_ok (by kernel_rfl))
theorem body_sGetAt (l:List UInt8) (k c:Int) (n:Nat) (h:ok_sGetAt (l,k,c)):body prog tb33 kp_sGetAt n F_sGetAt (ea_sGetAt (l,k,c))=some ([oT (eB (f_sGetAt (l,k,c)).1),oT (.bool (f_sGetAt (l,k,c)).2)],[nul,nul,nul]):=by
 have hlm:=lm
 have hl:l.length≤LM:=h
 unfold ea_sGetAt f_sGetAt gat
 dsimp only
 rw [pre_sGetAt]
 by_cases h1:0≤c∧c≤(l.length:Int)∧0≤k∧k≤(l.length:Int) - c
 ·obtain ⟨a1,a2,a3,a4⟩:=h1
  have a5:k≤(l.length:Int):=by omega
  have a6:c≤(l.length:Int) - k:=by omega
  have w1:i64.wrap ((l.length:Int) - c)=(l.length:Int) - c:=by rw [IntKind.wrap_i64];omega
  have w2:i64.wrap ((l.length:Int) - k)=(l.length:Int) - k:=by rw [IntKind.wrap_i64];omega
  have w3:i64.wrap (k+c)=k+c:=by rw [IntKind.wrap_i64];omega
  have a7:k≤k+c:=by omega
  have a8:k+c≤(l.length:Int):=by omega
  have w4:(k+c).toNat - k.toNat=c.toNat:=by omega
  have hc:=cut_eL (m:=1) (row:=rowB) (l:=l) (s:=k.toNat) (n:=c.toNat) (by omega)
  have hle:((l.drop k.toNat).take c.toNat).length=c.toNat:=by simp;omega
  try simp only [eL_T,arr_fn,hle] at hc
  injection hc with _ _ hc
  have c0:ok_clB ((l.drop k.toNat).take c.toNat):=by unfold ok_clB;rw [hle];omega
  have s1:c.toNat * 1≤70368744177664:=by omega
  have s2:c.toNat≤70368744177664:=by omega
  have e1:appF 0 (rowsT []) (plainF (atL rowB ((l.drop k.toNat).take c.toNat)))=atL rowB ((l.drop k.toNat).take c.toNat):=by rw [plain_B,app0]
  simp only [a1,a2,a3,a4,a5,a6,a7,a8,w1,w2,w3,w4,decide_true,cond_true,Bool.and_self,Bool.not_true,cond_false,rsx0,hc,ble_d,s1,s2,Nat.le_refl,e1]
  simp only [oT,eL_T,hle]
  rfl
 ·rw [gat_false h1]
  have r0:T.arr 1 0 (rowsT [])=T.arr 1 0 (atL rowB []):=by rw [rowsT0 rowB]
  by_cases a3:0≤k
  case neg =>
   simp only [a3,decide_false,cond_false,r0]
   rfl
  by_cases a1:0≤c
  case neg =>
   simp only [a1,a3,decide_true,decide_false,cond_true,cond_false,r0]
   rfl
  by_cases a5:k≤(l.length:Int)
  case neg =>
   simp only [a1,a3,a5,decide_true,decide_false,cond_true,cond_false,r0]
   rfl
  have w2:i64.wrap ((l.length:Int) - k)=(l.length:Int) - k:=by rw [IntKind.wrap_i64];omega
  have a6:¬ c≤(l.length:Int) - k:=fun e=>h1 ⟨a1,by omega,a3,by omega⟩
  simp only [a1,a3,a5,w2,a6,decide_true,decide_false,cond_true,cond_false,Bool.not_false,r0]
  rfl
theorem s_sGetAt:EntOk prog i_sGetAt e_sGetAt:=ent_ok ea_sGetAt_inj fun x hx =>
 body_sound (φ:=tb33) (tabS_cons s_l2There tabS_nil) mixed (kp:=kp_sGetAt) (n:=0) func104 (c:=bodyOf F_sGetAt) (by kernel_rfl) (body_sGetAt x.1 x.2.1 x.2.2 (0) hx) (name_ok (by kernel_rfl))
end Go.Mach.F
namespace Go.Mach.F
open Go Go.Mach Go.Proofs.Tryz Go.IntKind
--=set_option maxRecDepth 100000
def thB (m:Ml) (r:Rf):List UInt8:=((m.rooms.getD (thg m r).1.toNat zRm).things.getD r.no.toNat ⟨[]⟩).b
def erd (m:Ml) (r:Rf) (k c:Int):List UInt8 × Int:=bif decide ((thg m r).2=0) then (bif (gat (thB m r) k c).2 then ((gat (thB m r) k c).1,0) else ([],7)) else ([],(thg m r).2)
def ok_iEagerRead (x:Ml × Rf × Int × Int):Prop:=(x.1.rooms.length≤LM∧∀ y∈x.1.rooms,ok_HdS y.kids∧ok_SfS y.things∧ok_LI y.tags)
def ea_iEagerRead (x:Ml × Rf × Int × Int):List Arg:=[aR x.1.cs,aR x.2.1.cs,aI x.2.2.1,aI x.2.2.2]
def f_iEagerRead (x:Ml × Rf × Int × Int):List UInt8 × Int:=erd x.1 x.2.1 x.2.2.1 x.2.2.2
noncomputable def e_iEagerRead:Ent:=ent [] ok_iEagerRead ea_iEagerRead (fun (x:List UInt8 × Int)=>([oT (eB x.1),oT (.int .i64 x.2)],[nul,nul,nul,nul])) f_iEagerRead
theorem ea_iEagerRead_inj (x y:Ml × Rf × Int × Int) (h:ea_iEagerRead x=ea_iEagerRead y):x=y:=by
 obtain ⟨m1,r1,k1,c1⟩:=x
 obtain ⟨m2,r2,k2,c2⟩:=y
 simp only [ea_iEagerRead,List.cons.injEq,and_true,true_and] at h
 obtain ⟨e0,e1,e2,e3⟩:=h
 obtain rfl:=Ml.cs_ext (aR_inj e0)
 obtain rfl:=Rf.cs_ext (aR_inj e1)
 obtain rfl:=aI_inj e2
 obtain rfl:=aI_inj e3
 rfl
theorem dm_iEagerRead {m:Ml} {r:Rf} {k:Int} {c:Int} (h:ok_iEagerRead (m,r,k,c)):dom ok_iEagerRead ea_iEagerRead [(wMl m),(wRf r),(0,false,[C.tr false (T.int i64 k)]),(0,false,[C.tr false (T.int i64 c)])]=true:=dom_ea (ea:=ea_iEagerRead) (x:=(m,r,k,c)) h
theorem iv_iEagerRead {m:Ml} {r:Rf} {k:Int} {c:Int} (h:ok_iEagerRead (m,r,k,c)):inv ok_iEagerRead ea_iEagerRead [(wMl m),(wRf r),(0,false,[C.tr false (T.int i64 k)]),(0,false,[C.tr false (T.int i64 c)])]=(m,r,k,c):=inv_ea ea_iEagerRead_inj (x:=(m,r,k,c)) h
theorem d_iEagerRead (m:Ml) (r:Rf) (k:Int) (c:Int):f_iEagerRead (m,r,k,c)=erd m r k c:=rfl
def i_iEagerRead:Nat:=61
noncomputable abbrev F_iEagerRead:Func:=f61
def kp_iEagerRead:List (Nat × List Nat):=[(0,[8,12,16,17,20,21]),(1,[8,12,16,17,20,21,40,44]),(2,[8,12,16,17,20,21,40,44,84]),(3,[32,36]),(4,[48,52]),(5,[48,164]),(6,[32,36]),(7,[32,36])]
noncomputable abbrev tb34:Sems:=tabS [(i_iThg,e_iThg),(i_iGetAt,e_iGetAt)]
theorem pre_iEagerRead (m:Ml) (r:Rf) (k:Int) (c:Int) (n:Nat):body prog tb34 kp_iEagerRead n F_iEagerRead [aR m.cs,aR r.cs,aI k,aI c]=(entK ok_iThg ea_iThg (f_iThg) [(wMl m),(wRf r)] fun (r1:Int × Int)=>bif r1.2 != 0 then some ([(false,[.tr true (.arr (1) (0) (fun x x_1=>T.hole))]),(false,[.tr true (T.int i64 r1.2)])],[(false,[]),(false,[]),(false,[]),(false,[])]) else gd (decide (0≤r1.1)&&(r1.1.toNat.blt m.2.length&&true))<|gd ((atL Rm.cs m.2 r1.1.toNat 9).isArr&&(atL Rm.cs m.2 r1.1.toNat 9).wd.beq 1)<|gd (decide (0≤r.3)&&(r.3.toNat.blt (atL Rm.cs m.2 r1.1.toNat 9).ln&&true))<|gd (((atL Rm.cs m.2 r1.1.toNat 9).fn r.3.toNat 0).isArr&&((atL Rm.cs m.2 r1.1.toNat 9).fn r.3.toNat 0).wd.beq 1)<|entK ok_iGetAt ea_iGetAt (f_iGetAt) [(0,false,[C.tr false (T.arr 1 ((atL Rm.cs m.2 r1.1.toNat 9).fn r.3.toNat 0).ln ((atL Rm.cs m.2 r1.1.toNat 9).fn r.3.toNat 0).fn)]),(0,false,[C.tr false (T.int i64 k)]),(0,false,[C.tr false (T.int i64 c)])] fun (r2:List UInt8 × Bool)=>gl r2.1.length<|bif !r2.2 then some ([(false,[.tr true (.arr (1) (0) (fun x x_1=>T.hole))]),(false,[.tr true (T.int i64 7)])],[(false,[]),(false,[]),(false,[]),(false,[])]) else gl r2.1.length<|gl r2.1.length<|some ([(false,[.tr true (.arr (1) (r2.1.length) (atL rowB r2.1))]),(false,[.tr true (T.int i64 0)])],[(false,[]),(false,[]),(false,[]),(false,[])])):=by kernel_rfl
def ok_sEagerRead (x:Ml × Rf × Int × Int):Prop:=(x.1.rooms.length≤LM∧∀ y∈x.1.rooms,ok_HdS y.kids∧ok_SfS y.things∧ok_LI y.tags)
def ea_sEagerRead (x:Ml × Rf × Int × Int):List Arg:=[aR x.1.cs,aR x.2.1.cs,aI x.2.2.1,aI x.2.2.2]
def f_sEagerRead (x:Ml × Rf × Int × Int):List UInt8 × Int:=erd x.1 x.2.1 x.2.2.1 x.2.2.2
noncomputable def e_sEagerRead:Ent:=ent [] ok_sEagerRead ea_sEagerRead (fun (x:List UInt8 × Int)=>([oT (eB x.1),oT (.int .i64 x.2)],[nul,nul,nul,nul])) f_sEagerRead
theorem ea_sEagerRead_inj (x y:Ml × Rf × Int × Int) (h:ea_sEagerRead x=ea_sEagerRead y):x=y:=by
 obtain ⟨m1,r1,k1,c1⟩:=x
 obtain ⟨m2,r2,k2,c2⟩:=y
 simp only [ea_sEagerRead,List.cons.injEq,and_true,true_and] at h
 obtain ⟨e0,e1,e2,e3⟩:=h
 obtain rfl:=Ml.cs_ext (aR_inj e0)
 obtain rfl:=Rf.cs_ext (aR_inj e1)
 obtain rfl:=aI_inj e2
 obtain rfl:=aI_inj e3
 rfl
theorem dm_sEagerRead {m:Ml} {r:Rf} {k:Int} {c:Int} (h:ok_sEagerRead (m,r,k,c)):dom ok_sEagerRead ea_sEagerRead [(wMl m),(wRf r),(0,false,[C.tr false (T.int i64 k)]),(0,false,[C.tr false (T.int i64 c)])]=true:=dom_ea (ea:=ea_sEagerRead) (x:=(m,r,k,c)) h
theorem iv_sEagerRead {m:Ml} {r:Rf} {k:Int} {c:Int} (h:ok_sEagerRead (m,r,k,c)):inv ok_sEagerRead ea_sEagerRead [(wMl m),(wRf r),(0,false,[C.tr false (T.int i64 k)]),(0,false,[C.tr false (T.int i64 c)])]=(m,r,k,c):=inv_ea ea_sEagerRead_inj (x:=(m,r,k,c)) h
theorem d_sEagerRead (m:Ml) (r:Rf) (k:Int) (c:Int):f_sEagerRead (m,r,k,c)=erd m r k c:=rfl
def i_sEagerRead:Nat:=46
noncomputable abbrev F_sEagerRead:Func:=f46
def kp_sEagerRead:List (Nat × List Nat):=[(0,[8,12,16,17,20,21]),(1,[8,12,16,17,20,21,40,44]),(2,[8,12,16,17,20,21,40,44,84]),(3,[32,36]),(4,[48,52]),(5,[48,168]),(6,[32,36]),(7,[32,36])]
noncomputable abbrev tb35:Sems:=tabS [(i_sThg,e_sThg),(i_sGetAt,e_sGetAt)]
theorem pre_sEagerRead (m:Ml) (r:Rf) (k:Int) (c:Int) (n:Nat):body prog tb35 kp_sEagerRead n F_sEagerRead [aR m.cs,aR r.cs,aI k,aI c]=(entK ok_sThg ea_sThg (f_sThg) [(wMl m),(wRf r)] fun (r1:Int × Int)=>bif r1.2 != 0 then some ([(false,[.tr true (.arr (1) (0) (rowsT []))]),(false,[.tr true (T.int i64 r1.2)])],[(false,[]),(false,[]),(false,[]),(false,[])]) else gd (decide (0≤r1.1)&&(r1.1.toNat.blt m.2.length&&true))<|gd ((atL Rm.cs m.2 r1.1.toNat 9).isArr&&(atL Rm.cs m.2 r1.1.toNat 9).wd.beq 1)<|gd (decide (0≤r.3)&&(r.3.toNat.blt (atL Rm.cs m.2 r1.1.toNat 9).ln&&true))<|gd (((atL Rm.cs m.2 r1.1.toNat 9).fn r.3.toNat 0).isArr&&((atL Rm.cs m.2 r1.1.toNat 9).fn r.3.toNat 0).wd.beq 1)<|entK ok_sGetAt ea_sGetAt (f_sGetAt) [(0,false,[C.tr false (T.arr 1 ((atL Rm.cs m.2 r1.1.toNat 9).fn r.3.toNat 0).ln ((atL Rm.cs m.2 r1.1.toNat 9).fn r.3.toNat 0).fn)]),(0,false,[C.tr false (T.int i64 k)]),(0,false,[C.tr false (T.int i64 c)])] fun (r2:List UInt8 × Bool)=>gl r2.1.length<|bif !r2.2 then some ([(false,[.tr true (.arr (1) (0) (rowsT []))]),(false,[.tr true (T.int i64 7)])],[(false,[]),(false,[]),(false,[]),(false,[])]) else gl r2.1.length<|gl r2.1.length<|some ([(false,[.tr true (.arr (1) (r2.1.length) (atL rowB r2.1))]),(false,[.tr true (T.int i64 0)])],[(false,[]),(false,[]),(false,[]),(false,[])])):=by kernel_rfl
end Go.Mach.F
namespace Go.Mach.F
open Go Go.Mach Go.Proofs.Tryz
theorem thg_ok {m:Ml} {r:Rf} (h:(thg m r).2=0):(0≤(thg m r).1∧(thg m r).1.toNat < m.rooms.length)∧0≤r.no∧r.no.toNat < (m.rooms.getD (thg m r).1.toNat zRm).things.length:=by
 unfold thg at h ⊢
 cases hr:refOk r with
 | false =>
  rw [hr] at h
  simp at h
 | true =>
  have hno:0≤r.no:=by
   simp only [refOk,Bool.and_eq_true,decide_eq_true_eq] at hr
   exact hr.2
  rw [hr] at h
  simp only [cond_true] at h ⊢
  by_cases e:rof m.rooms r.h < 0
  ·simp only [e,decide_true,cond_true] at h
   simp at h
  ·have e1:=rof_lt e
   simp only [e,decide_false,cond_false] at h ⊢
   cases hb:(decide ((m.rooms.getD (rof m.rooms r.h).toNat zRm).ep=r.ep)&&decide (r.no < ((m.rooms.getD (rof m.rooms r.h).toNat zRm).things.length:Int))) with
   | false =>
    rw [hb] at h
    simp at h
   | true =>
    simp only [cond_true]
    simp only [Bool.and_eq_true,decide_eq_true_eq] at hb
    exact ⟨e1,hno,by omega⟩
theorem things_get {l:List Sf} {j:Nat} (h:j < l.length):l[j]?=some (l.getD j ⟨[]⟩):=by
 rw [List.getD_eq_getElem?_getD,List.getElem?_eq_getElem h]
 rfl
theorem body_iEagerRead (m:Ml) (r:Rf) (k c:Int) (n:Nat) (h:ok_iEagerRead (m,r,k,c)):body prog tb34 kp_iEagerRead n F_iEagerRead (ea_iEagerRead (m,r,k,c))=some ([oT (eB (f_iEagerRead (m,r,k,c)).1),oT (.int .i64 (f_iEagerRead (m,r,k,c)).2)],[nul,nul,nul,nul]):=by
 have hlm:=lm
 obtain ⟨hl,hr⟩:=h
 dsimp only at hl hr
 have c0:ok_iThg (m,r):=hl
 have r0:T.arr 1 0 (rowsT [])=T.arr 1 0 (atL rowB []):=by rw [rowsT0 rowB]
 unfold ea_iEagerRead f_iEagerRead erd
 dsimp only
 rw [pre_iEagerRead]
 try simp only [eL_T,Ml.cs,Rf.cs]
 rw [entK_of (dm_iThg c0) (iv_iThg c0)]
 simp only [d_iThg,int_ne]
 by_cases e:(thg m r).2=0
 case neg =>
  simp only [e,decide_false,Bool.not_false,cond_true,cond_false,r0]
  rfl
 have hk:=thg_ok e
 have hx:=getD_get hk.1.2
 have ht:=things_get hk.2.2
 have hy:=hr _ (List.mem_of_getElem? hx)
 have c1:ok_iGetAt (thB m r,k,c):=hy.2.1.2 _ (List.mem_of_getElem? ht)
 have e0:=hk.1.1
 have e1:=hk.1.2
 have e2:=hk.2.1
 have e3:=hk.2.2
 obtain ⟨x,hxe⟩:∃ x,x=m.rooms.getD (thg m r).1.toNat zRm:=⟨_,rfl⟩
 obtain ⟨s,hse⟩:∃ s,s=x.things.getD r.no.toNat ⟨[]⟩:=⟨_,rfl⟩
 have hb:thB m r=s.b:=by rw [hse,hxe];rfl
 rw [← hxe] at hx ht e3
 rw [← hse] at ht
 rw [hb] at c1 ⊢
 simp only [rsx0,e,e0,e1,e2,e3,Bool.not_true,cond_false,atL_of hx,Rm.cs,atL_of ht,Sf.cs,eL_T]
 rw [entK_of (dm_iGetAt c1) (iv_iGetAt c1)]
 simp only [d_iGetAt,rsx0,ble_d,Nat.le_refl]
 cases (gat s.b k c).2 with
 | false =>
  simp only [Bool.not_false,cond_true,cond_false,r0]
  rfl
 | true =>
  simp only [Bool.not_true,cond_true,cond_false]
  rfl
theorem s_iEagerRead:EntOk prog i_iEagerRead e_iEagerRead:=ent_ok ea_iEagerRead_inj fun x hx =>
 body_sound (φ:=tb34) (tabS_cons s_iThg (tabS_cons s_iGetAt tabS_nil)) mixed (kp:=kp_iEagerRead) (n:=0) func61 (c:=bodyOf F_iEagerRead) (by kernel_rfl) (body_iEagerRead x.1 x.2.1 x.2.2.1 x.2.2.2 (0) hx) (name_ok (by kernel_rfl))
theorem body_sEagerRead (m:Ml) (r:Rf) (k c:Int) (n:Nat) (h:ok_sEagerRead (m,r,k,c)):body prog tb35 kp_sEagerRead n F_sEagerRead (ea_sEagerRead (m,r,k,c))=some ([oT (eB (f_sEagerRead (m,r,k,c)).1),oT (.int .i64 (f_sEagerRead (m,r,k,c)).2)],[nul,nul,nul,nul]):=by
 have hlm:=lm
 obtain ⟨hl,hr⟩:=h
 dsimp only at hl hr
 have c0:ok_sThg (m,r):=hl
 have r0:T.arr 1 0 (rowsT [])=T.arr 1 0 (atL rowB []):=by rw [rowsT0 rowB]
 unfold ea_sEagerRead f_sEagerRead erd
 dsimp only
 rw [pre_sEagerRead]
 try simp only [eL_T,Ml.cs,Rf.cs]
 rw [entK_of (dm_sThg c0) (iv_sThg c0)]
 simp only [d_sThg,int_ne]
 by_cases e:(thg m r).2=0
 case neg =>
  simp only [e,decide_false,Bool.not_false,cond_true,cond_false,r0]
  rfl
 have hk:=thg_ok e
 have hx:=getD_get hk.1.2
 have ht:=things_get hk.2.2
 have hy:=hr _ (List.mem_of_getElem? hx)
 have c1:ok_sGetAt (thB m r,k,c):=hy.2.1.2 _ (List.mem_of_getElem? ht)
 have e0:=hk.1.1
 have e1:=hk.1.2
 have e2:=hk.2.1
 have e3:=hk.2.2
 obtain ⟨x,hxe⟩:∃ x,x=m.rooms.getD (thg m r).1.toNat zRm:=⟨_,rfl⟩
 obtain ⟨s,hse⟩:∃ s,s=x.things.getD r.no.toNat ⟨[]⟩:=⟨_,rfl⟩
 have hb:thB m r=s.b:=by rw [hse,hxe];rfl
 rw [← hxe] at hx ht e3
 rw [← hse] at ht
 rw [hb] at c1 ⊢
 simp only [rsx0,e,e0,e1,e2,e3,Bool.not_true,cond_false,atL_of hx,Rm.cs,atL_of ht,Sf.cs,eL_T]
 rw [entK_of (dm_sGetAt c1) (iv_sGetAt c1)]
 simp only [d_sGetAt,rsx0,ble_d,Nat.le_refl]
 cases (gat s.b k c).2 with
 | false =>
  simp only [Bool.not_false,cond_true,cond_false,r0]
  rfl
 | true =>
  simp only [Bool.not_true,cond_true,cond_false]
  rfl
theorem s_sEagerRead:EntOk prog i_sEagerRead e_sEagerRead:=ent_ok ea_sEagerRead_inj fun x hx =>
 body_sound (φ:=tb35) (tabS_cons s_sThg (tabS_cons s_sGetAt tabS_nil)) mixed (kp:=kp_sEagerRead) (n:=0) func46 (c:=bodyOf F_sEagerRead) (by kernel_rfl) (body_sEagerRead x.1 x.2.1 x.2.2.1 x.2.2.2 (0) hx) (name_ok (by kernel_rfl))
end Go.Mach.F
namespace Go.Mach.F
open Go Go.Mach Go.Proofs.Tryz Go.IntKind
--=set_option maxRecDepth 100000
def pua (l:List UInt8) (k:Int) (s:List UInt8):List UInt8 × Bool:=bif decide (0≤k)&&decide (k+(s.length:Int)≤(l.length:Int)) then (l.take k.toNat ++ (s ++ l.drop (k.toNat+s.length)),true) else (l,false)
def ok_iPutAt (x:List UInt8 × Int × List UInt8):Prop:=x.1.length≤LM∧x.2.2.length≤LM
def ea_iPutAt (x:List UInt8 × Int × List UInt8):List Arg:=[aT (eB x.1),aI x.2.1,aT (eB x.2.2)]
def f_iPutAt (x:List UInt8 × Int × List UInt8):List UInt8 × Bool:=pua x.1 x.2.1 x.2.2
noncomputable def e_iPutAt:Ent:=ent [] ok_iPutAt ea_iPutAt (fun (x:List UInt8 × Bool)=>([oT (eB x.1),oT (.bool x.2)],[nul,nul,nul])) f_iPutAt
theorem ea_iPutAt_inj (x y:List UInt8 × Int × List UInt8) (h:ea_iPutAt x=ea_iPutAt y):x=y:=by
 obtain ⟨l1,k1,s1⟩:=x
 obtain ⟨l2,k2,s2⟩:=y
 simp only [ea_iPutAt,List.cons.injEq,and_true,true_and] at h
 obtain ⟨e0,e1,e2⟩:=h
 obtain rfl:=eB_inj (aT_inj e0)
 obtain rfl:=aI_inj e1
 obtain rfl:=eB_inj (aT_inj e2)
 rfl
theorem dm_iPutAt {l:List UInt8} {k:Int} {s:List UInt8} (h:ok_iPutAt (l,k,s)):dom ok_iPutAt ea_iPutAt [(0,false,[C.tr false (T.arr 1 l.length (atL rowB l))]),(0,false,[C.tr false (T.int i64 k)]),(0,false,[C.tr false (T.arr 1 s.length (atL rowB s))])]=true:=dom_ea (ea:=ea_iPutAt) (x:=(l,k,s)) h
theorem iv_iPutAt {l:List UInt8} {k:Int} {s:List UInt8} (h:ok_iPutAt (l,k,s)):inv ok_iPutAt ea_iPutAt [(0,false,[C.tr false (T.arr 1 l.length (atL rowB l))]),(0,false,[C.tr false (T.int i64 k)]),(0,false,[C.tr false (T.arr 1 s.length (atL rowB s))])]=(l,k,s):=inv_ea ea_iPutAt_inj (x:=(l,k,s)) h
theorem d_iPutAt (l:List UInt8) (k:Int) (s:List UInt8):f_iPutAt (l,k,s)=pua l k s:=rfl
def i_iPutAt:Nat:=126
noncomputable abbrev F_iPutAt:Func:=f126
def kp_iPutAt:List (Nat × List Nat):=[(0,[0,4,8]),(1,[0,4,8,32]),(2,[4,8,32,68]),(3,[24,28]),(4,[32]),(5,[24,28])]
theorem pre_iPutAt (l:List UInt8) (k:Int) (s:List UInt8) (n:Nat):body prog tb32 kp_iPutAt n F_iPutAt [aT (eB l),aI k,aT (eB s)]=(entK ok_clB ea_clB (f_clB) [(0,false,[C.tr false (T.arr 1 l.length (atL rowB l))])] fun (r1:List UInt8)=>gl r1.length<|bif decide ((↑s.length:Int)≤(↑l.length:Int)) then bif decide (0≤k) then bif !decide (k≤i64.wrap ((↑l.length:Int) - (↑s.length:Int))) then gl r1.length<|gl r1.length<|some ([(false,[.tr true (.arr (1) (r1.length) (atL rowB r1))]),(false,[.tr true (T.bool false)])],[(false,[]),(false,[]),(false,[])]) else gd (decide (0≤k)&&(decide (k≤(↑r1.length:Int))&&decide ((↑r1.length:Int)≤(↑r1.length:Int))))<|bif s.length.ble ((↑r1.length:Int).toNat - k.toNat) then gd ((0+k.toNat+s.length).ble r1.length)<|gl r1.length<|gl r1.length<|some ([(false,[.tr true (.arr (1) (r1.length) (fillT 1 (0+k.toNat) s.length (fun j x=>(atL rowB s (j - (0+k.toNat)) 0).plain) (atL rowB r1)))]),(false,[.tr true (T.bool true)])],[(false,[]),(false,[]),(false,[])]) else gd ((0+k.toNat+((↑r1.length:Int).toNat - k.toNat)).ble r1.length)<|gl r1.length<|gl r1.length<|some ([(false,[.tr true (.arr (1) (r1.length) (fillT 1 (0+k.toNat) ((↑r1.length:Int).toNat - k.toNat) (fun j x=>(atL rowB s (j - (0+k.toNat)) 0).plain) (atL rowB r1)))]),(false,[.tr true (T.bool true)])],[(false,[]),(false,[]),(false,[])]) else gl r1.length<|gl r1.length<|some ([(false,[.tr true (.arr (1) (r1.length) (atL rowB r1))]),(false,[.tr true (T.bool false)])],[(false,[]),(false,[]),(false,[])]) else gl r1.length<|gl r1.length<|some ([(false,[.tr true (.arr (1) (r1.length) (atL rowB r1))]),(false,[.tr true (T.bool false)])],[(false,[]),(false,[]),(false,[])])):=by kernel_rfl
def ok_sPutAt (x:List UInt8 × Int × List UInt8):Prop:=x.1.length≤LM∧x.2.2.length≤LM
def ea_sPutAt (x:List UInt8 × Int × List UInt8):List Arg:=[aT (eB x.1),aI x.2.1,aT (eB x.2.2)]
def f_sPutAt (x:List UInt8 × Int × List UInt8):List UInt8 × Bool:=pua x.1 x.2.1 x.2.2
noncomputable def e_sPutAt:Ent:=ent [] ok_sPutAt ea_sPutAt (fun (x:List UInt8 × Bool)=>([oT (eB x.1),oT (.bool x.2)],[nul,nul,nul])) f_sPutAt
theorem ea_sPutAt_inj (x y:List UInt8 × Int × List UInt8) (h:ea_sPutAt x=ea_sPutAt y):x=y:=by
 obtain ⟨l1,k1,s1⟩:=x
 obtain ⟨l2,k2,s2⟩:=y
 simp only [ea_sPutAt,List.cons.injEq,and_true,true_and] at h
 obtain ⟨e0,e1,e2⟩:=h
 obtain rfl:=eB_inj (aT_inj e0)
 obtain rfl:=aI_inj e1
 obtain rfl:=eB_inj (aT_inj e2)
 rfl
theorem dm_sPutAt {l:List UInt8} {k:Int} {s:List UInt8} (h:ok_sPutAt (l,k,s)):dom ok_sPutAt ea_sPutAt [(0,false,[C.tr false (T.arr 1 l.length (atL rowB l))]),(0,false,[C.tr false (T.int i64 k)]),(0,false,[C.tr false (T.arr 1 s.length (atL rowB s))])]=true:=dom_ea (ea:=ea_sPutAt) (x:=(l,k,s)) h
theorem iv_sPutAt {l:List UInt8} {k:Int} {s:List UInt8} (h:ok_sPutAt (l,k,s)):inv ok_sPutAt ea_sPutAt [(0,false,[C.tr false (T.arr 1 l.length (atL rowB l))]),(0,false,[C.tr false (T.int i64 k)]),(0,false,[C.tr false (T.arr 1 s.length (atL rowB s))])]=(l,k,s):=inv_ea ea_sPutAt_inj (x:=(l,k,s)) h
theorem d_sPutAt (l:List UInt8) (k:Int) (s:List UInt8):f_sPutAt (l,k,s)=pua l k s:=rfl
def i_sPutAt:Nat:=105
noncomputable abbrev F_sPutAt:Func:=f105
def kp_sPutAt:List (Nat × List Nat):=[(0,[0,4,8]),(1,[0,4,8,32]),(2,[4,8,32,72]),(3,[24,28]),(4,[4,8,32,36]),(5,[4,8,32,36,92]),(6,[4,8,32,36]),(7,[4,8,32,36]),(8,[24,28])]
def ts_sPutAt:List Nat:=[0,0,0]
def st_sPutAt_1 (l:List UInt8) (k:Int) (s:List UInt8) (nx32:Nat) (fx32:Nat→Nat→T) (x36:Int):St:=[(4,⟨z0,[(false,[.tr true (T.int i64 k)])]⟩),(8,⟨z0,[(false,[.tr false (.arr (1) (s.length) (atL rowB s))])]⟩),(32,⟨z0,[(false,[.tr true (.arr (1) (nx32) (fx32))])]⟩),(36,⟨z0,[(false,[.tr true (T.int i64 x36)])]⟩)]
def ex_sPutAt_1_1 (l:List UInt8) (k:Int) (s:List UInt8) (nx32:Nat) (fx32:Nat→Nat→T) (x36:Int):St:=[(4,⟨z0,[(false,[.tr true (T.int i64 k)])]⟩),(8,⟨z0,[(false,[.tr false (.arr (1) (s.length) (atL rowB s))])]⟩),(32,⟨z0,[(false,[.tr true (.arr (1) (nx32) (fx32))])]⟩),(36,⟨z0,[(false,[.tr true (T.int i64 x36)])]⟩),(92,⟨z0,[]⟩)]
theorem round_sPutAt_1 (l:List UInt8) (k:Int) (s:List UInt8) (nx32:Nat) (fx32:Nat→Nat→T) (x36:Int) (n:Nat) (K:Ex→St→Res):roundAt prog tb33 kp_sPutAt F_sPutAt [1,1,1,0,1,0] n (st_sPutAt_1 l k s nx32 fx32 x36) K=(bif decide (x36 < (↑s.length:Int)) then gd (decide (0≤x36)&&(x36.toNat.blt s.length&&true))<|gd (T.isI IntKind.u8 (atL rowB s x36.toNat 0))<|gd (decide (0≤i64.wrap (k+x36))&&((i64.wrap (k+x36)).toNat.blt nx32&&true))<|gd ((0+(i64.wrap (k+x36)).toNat).blt nx32&&true&&true)<|K .normal (st_sPutAt_1 l k s (nx32) (setF (0+(i64.wrap (k+x36)).toNat) 0 (T.int IntKind.u8 (atL rowB s x36.toNat 0).toI) fx32) (i64.wrap (x36+1))) else K (.exit 0) (ex_sPutAt_1_1 l k s nx32 fx32 x36)):=by kernel_rfl
theorem post_sPutAt_1_1 (l:List UInt8) (k:Int) (s:List UInt8) (nx32:Nat) (fx32:Nat→Nat→T) (x36:Int) (n:Nat):contAt prog tb33 kp_sPutAt F_sPutAt ts_sPutAt [1,1,1,0,1,0] [] n (.exit 0) (ex_sPutAt_1_1 l k s nx32 fx32 x36)=(gl nx32<|gl nx32<|some ([(false,[.tr true (.arr (1) (nx32) (fx32))]),(false,[.tr true (T.bool true)])],[(false,[]),(false,[]),(false,[])])):=by kernel_rfl
theorem pre_sPutAt (l:List UInt8) (k:Int) (s:List UInt8) (n:Nat):body prog tb33 kp_sPutAt n F_sPutAt [aT (eB l),aI k,aT (eB s)]=(gd (((0+l.length) * 1).ble 70368744177664&&(0+l.length).ble 70368744177664)<|gd ((0+l.length).ble (0+l.length)&&true)<|bif decide (0≤k) then bif decide (k≤(↑l.length:Int)) then bif !decide ((↑s.length:Int)≤i64.wrap ((↑l.length:Int) - k)) then gd ((0+l.length).ble (0+l.length)&&true)<|gd ((0+l.length).ble (0+l.length)&&true)<|some ([(false,[.tr true (.arr (1) (0+l.length) (appF 0 (rowsT []) (plainF (atL rowB l))))]),(false,[.tr true (T.bool false)])],[(false,[]),(false,[]),(false,[])]) else loopAt prog tb33 kp_sPutAt F_sPutAt [1,1,1,0,1,0] n n (st_sPutAt_1 l k s (0+l.length) (appF 0 (rowsT []) (plainF (atL rowB l))) (0)) (contAt prog tb33 kp_sPutAt F_sPutAt ts_sPutAt [1,1,1,0,1,0] [] n) else gd ((0+l.length).ble (0+l.length)&&true)<|gd ((0+l.length).ble (0+l.length)&&true)<|some ([(false,[.tr true (.arr (1) (0+l.length) (appF 0 (rowsT []) (plainF (atL rowB l))))]),(false,[.tr true (T.bool false)])],[(false,[]),(false,[]),(false,[])]) else gd ((0+l.length).ble (0+l.length)&&true)<|gd ((0+l.length).ble (0+l.length)&&true)<|some ([(false,[.tr true (.arr (1) (0+l.length) (appF 0 (rowsT []) (plainF (atL rowB l))))]),(false,[.tr true (T.bool false)])],[(false,[]),(false,[]),(false,[])])):=by kernel_rfl
end Go.Mach.F
namespace Go.Mach.F
open Go Go.Mach Go.Proofs.Tryz Go.IntKind
def spl {α:Type} (l s:List α) (k:Nat):List α:=l.take k ++ (s ++ l.drop (k+s.length))
theorem spl_len {α:Type} {l s:List α} {k:Nat} (h:k+s.length≤l.length):(spl l s k).length=l.length:=by
 simp only [spl,List.length_append,List.length_take,List.length_drop]
 omega
theorem spl_get {α:Type} {l s:List α} {k:Nat} (h:k+s.length≤l.length) (j:Nat):(spl l s k)[j]?=if j < k then l[j]? else if j < k+s.length then s[j - k]? else l[j]?:=by
 unfold spl
 by_cases h1:j < k
 ·rw [if_pos h1,List.getElem?_append_left (by rw [List.length_take];omega),List.getElem?_take,if_pos h1]
 ·rw [if_neg h1,List.getElem?_append_right (by rw [List.length_take];omega),List.length_take,show min k l.length=k by omega]
  by_cases h2:j < k+s.length
  ·rw [if_pos h2,List.getElem?_append_left (by omega)]
  ·rw [if_neg h2,List.getElem?_append_right (by omega),List.getElem?_drop]
   congr 1
   omega
theorem spl_nil {α:Type} (l:List α) (k:Nat):spl l [] k=l:=by simp [spl]
theorem spl_set {α:Type} {l s:List α} {k i:Nat} {x:α} (h:k+s.length≤l.length) (hx:s[i]?=some x):(spl l (s.take i) k).set (k+i) x=spl l (s.take (i+1)) k:=by
 have hi:=(List.getElem?_eq_some_iff.1 hx).1
 have l0:(s.take i).length=i:=by rw [List.length_take];omega
 have l1:(s.take (i+1)).length=i+1:=by rw [List.length_take];omega
 have h0:k+(s.take i).length≤l.length:=by omega
 have h1:k+(s.take (i+1)).length≤l.length:=by omega
 refine List.ext_getElem? fun j=>?_
 rw [spl_get h1,l1]
 by_cases e:j=k+i
 ·subst e
  rw [List.getElem?_set_self (by rw [spl_len h0];omega),if_neg (by omega),if_pos (by omega),List.getElem?_take,if_pos (by omega),Nat.add_sub_cancel_left,hx]
 ·rw [List.getElem?_set_ne (Ne.symm e),spl_get h0,l0]
  by_cases h2:j < k
  ·rw [if_pos h2,if_pos h2]
  ·rw [if_neg h2,if_neg h2]
   by_cases h3:j < k+i
   ·rw [if_pos h3,if_pos (by omega),List.getElem?_take,List.getElem?_take,if_pos (by omega),if_pos (by omega)]
   ·rw [if_neg h3,if_neg (by omega)]
theorem fill_spl (l s:List UInt8) {k:Nat} (h:k+s.length≤l.length):fillT 1 k s.length (fun j _=>(atL rowB s (j - k) 0).plain) (atL rowB l)=atL rowB (spl l s k):=by
 funext j c
 unfold fillT
 rw [blt_d,ble_d,blt_d,← Bool.decide_and,← Bool.decide_and,Bool.cond_decide]
 have hsp:=spl_get h j
 by_cases h1:c < 1∧k≤j∧j < k+s.length
 ·obtain ⟨a1,a2,a3⟩:=h1
  obtain rfl:c=0:=by omega
  rw [if_pos ⟨a1,a2,a3⟩]
  rw [if_neg (by omega),if_pos a3,List.getElem?_eq_getElem (show j - k < s.length by omega)] at hsp
  rw [atL_of hsp]
  show (atL rowB s (j - k) 0).plain=_
  rw [atL_of (List.getElem?_eq_getElem (show j - k < s.length by omega))]
  rfl
 ·rw [if_neg h1]
  by_cases h2:k≤j∧j < k+s.length
  ·have hl:j < l.length:=by omega
   rw [if_neg (by omega),if_pos h2.2,List.getElem?_eq_getElem (show j - k < s.length by omega)] at hsp
   rw [atL_of hsp,atL_of (List.getElem?_eq_getElem hl)]
   obtain ⟨c,rfl⟩:∃ c',c=c'+1:=⟨c - 1,by omega⟩
   rfl
  ·have:(spl l s k)[j]?=l[j]?:=by
    rw [hsp]
    by_cases h3:j < k
    ·rw [if_pos h3]
    ·rw [if_neg h3,if_neg (by omega)]
   unfold atL
   rw [this]
theorem pua_of {l s:List UInt8} {k:Int} (h0:0≤k) (h1:k+(s.length:Int)≤(l.length:Int)):pua l k s=(spl l s k.toNat,true):=by
 unfold pua spl
 simp only [h0,h1,decide_true,Bool.and_self,cond_true]
theorem pua_no {l s:List UInt8} {k:Int} (h:¬ (0≤k∧k+(s.length:Int)≤(l.length:Int))):pua l k s=(l,false):=by
 unfold pua
 rw [← Bool.decide_and,decide_eq_false h]
 rfl
theorem body_iPutAt (l:List UInt8) (k:Int) (s:List UInt8) (n:Nat) (h:ok_iPutAt (l,k,s)):body prog tb32 kp_iPutAt n F_iPutAt (ea_iPutAt (l,k,s))=some ([oT (eB (f_iPutAt (l,k,s)).1),oT (.bool (f_iPutAt (l,k,s)).2)],[nul,nul,nul]):=by
 have hlm:=lm
 obtain ⟨hl,hs⟩:l.length≤LM∧s.length≤LM:=h
 have w0:i64.wrap ((l.length:Int) - (s.length:Int))=(l.length:Int) - (s.length:Int):=by rw [IntKind.wrap_i64];omega
 unfold ea_iPutAt f_iPutAt
 dsimp only
 rw [pre_iPutAt]
 have c0:ok_clB l:=hl
 rw [entK_of (dm_clB c0) (iv_clB c0)]
 simp only [d_clB,rsx0,ble_d,Nat.le_refl,w0]
 by_cases a0:(s.length:Int)≤(l.length:Int)
 case neg =>
  rw [pua_no (by omega)]
  simp only [a0,decide_false,cond_false]
  rfl
 by_cases a1:0≤k
 case neg =>
  rw [pua_no (by omega)]
  simp only [a0,a1,decide_true,decide_false,cond_true,cond_false]
  rfl
 by_cases a2:k≤(l.length:Int) - (s.length:Int)
 case neg =>
  rw [pua_no (by omega)]
  simp only [a0,a1,a2,decide_true,decide_false,cond_true,cond_false,Bool.not_false]
  rfl
 have a3:k≤(l.length:Int):=by omega
 have a4:s.length≤l.length - k.toNat:=by omega
 have a5:k.toNat+s.length≤l.length:=by omega
 rw [pua_of a1 (by omega)]
 simp only [rsx0,a0,a1,a2,a3,a4,a5,decide_true,cond_true,cond_false,Bool.not_true,Bool.and_self,Int.toNat_natCast,Int.le_refl,fill_spl l s a5,oT,eL_T,spl_len a5]
 rfl
theorem s_iPutAt:EntOk prog i_iPutAt e_iPutAt:=ent_ok ea_iPutAt_inj fun x hx =>
 body_sound (φ:=tb32) (tabS_cons s_ihas (tabS_cons s_clB tabS_nil)) mixed (kp:=kp_iPutAt) (n:=0) func126 (c:=bodyOf F_iPutAt) (by kernel_rfl) (body_iPutAt x.1 x.2.1 x.2.2 (0) hx) (name_ok (by kernel_rfl))
theorem body_sPutAt (l:List UInt8) (k:Int) (s:List UInt8) (h:ok_sPutAt (l,k,s)):body prog tb33 kp_sPutAt (s.length+1) F_sPutAt (ea_sPutAt (l,k,s))=some ([oT (eB (f_sPutAt (l,k,s)).1),oT (.bool (f_sPutAt (l,k,s)).2)],[nul,nul,nul]):=by
 have hlm:=lm
 obtain ⟨hl,hs⟩:l.length≤LM∧s.length≤LM:=h
 have w0:i64.wrap ((l.length:Int) - (s.length:Int))=(l.length:Int) - (s.length:Int):=by rw [IntKind.wrap_i64];omega
 unfold ea_sPutAt f_sPutAt
 dsimp only
 rw [pre_sPutAt]
 have e1:appF 0 (rowsT []) (plainF (atL rowB l))=atL rowB l:=by rw [plain_B,app0]
 have s1:l.length * 1≤70368744177664:=by omega
 have s2:l.length≤70368744177664:=by omega
 simp only [rsx0,ble_d,Nat.le_refl,s1,s2,e1]
 by_cases a1:0≤k
 case neg =>
  rw [pua_no (by omega)]
  simp only [a1,decide_false,cond_false]
  rfl
 by_cases a2:k≤(l.length:Int)
 case neg =>
  rw [pua_no (by omega)]
  simp only [a1,a2,decide_true,decide_false,cond_true,cond_false]
  rfl
 have w1:i64.wrap ((l.length:Int) - k)=(l.length:Int) - k:=by rw [IntKind.wrap_i64];omega
 by_cases a3:(s.length:Int)≤(l.length:Int) - k
 case neg =>
  rw [pua_no (by omega)]
  simp only [a1,a2,a3,w1,decide_true,decide_false,cond_true,cond_false,Bool.not_false]
  rfl
 have a5:k.toNat+s.length≤l.length:=by omega
 rw [pua_of a1 (by omega)]
 simp only [a1,a2,a3,w1,decide_true,cond_true,cond_false,Bool.not_true]
 have hst:st_sPutAt_1 l k s l.length (atL rowB l) 0=(fun i:Nat=>st_sPutAt_1 l k s l.length (atL rowB (spl l (s.take i) k.toNat)) (i:Nat)) 0:=by
  simp only [List.take_zero,spl_nil]
  rfl
 rw [hst,forLoop s.length (fun i:Nat=>st_sPutAt_1 l k s l.length (atL rowB (spl l (s.take i) k.toNat)) (i:Nat)) (ex_sPutAt_1_1 l k s l.length (atL rowB (spl l s k.toNat)) s.length) 0 (fun i K hi=>?_) (fun K=>?_) _ (Nat.le_refl _)]
 ·rw [post_sPutAt_1_1]
  simp only [rsx0,ble_d,Nat.le_refl,oT,eL_T,spl_len a5]
  rfl
 ·have hx:=List.getElem?_eq_getElem hi
  obtain ⟨x,hxe⟩:∃ x,x=s[i]:=⟨_,rfl⟩
  rw [← hxe] at hx
  have l0:(s.take i).length=i:=by rw [List.length_take];omega
  have w2:i64.wrap (k+(i:Int))=k+(i:Int):=by rw [IntKind.wrap_i64];omega
  have w3:(k+(i:Int)).toNat=k.toNat+i:=by omega
  have q1:0≤k+(i:Int):=by omega
  have q2:k.toNat+i < l.length:=by omega
  have hj:k.toNat+i < (spl l (s.take i) k.toNat).length:=by rw [spl_len (by omega)];omega
  rw [round_sPutAt_1]
  simp (disch:=omega) only [rsx0,hi,w2,w3,q1,q2,atL_of hx,rowB,wrapS]
  rw [setF_list (y:=x) (List.getElem?_eq_getElem hj) rfl (by decide:0 < 1),spl_set a5 hx]
 ·rw [round_sPutAt_1]
  simp only [lt_d,Nat.lt_irrefl,decide_false,cond_false,List.take_length]
theorem s_sPutAt:EntOk prog i_sPutAt e_sPutAt:=ent_ok ea_sPutAt_inj fun x hx =>
 body_sound (φ:=tb33) (tabS_cons s_l2There tabS_nil) mixed (kp:=kp_sPutAt) (n:=x.2.2.length+1) func105 (c:=bodyOf F_sPutAt) (by kernel_rfl) (body_sPutAt x.1 x.2.1 x.2.2 hx) (name_ok (by kernel_rfl))
end Go.Mach.F
namespace Go.Mach.F
open Go Go.Mach Go.Proofs.Tryz Go.IntKind
--=set_option maxRecDepth 100000
def wrtR (x:Rm) (i:Nat) (b:List UInt8):Rm:={ x with things:=x.things.set i ⟨b⟩ }
def wrtM (m:Ml) (r:Rf) (k:Int) (s:List UInt8):Ml × Int:=bif decide ((thg m r).2=0) then (bif (pua (thB m r) k s).2 then (⟨m.c,m.rooms.set (thg m r).1.toNat (wrtR (m.rooms.getD (thg m r).1.toNat zRm) r.no.toNat (pua (thB m r) k s).1),m.log⟩,0) else (m,7)) else (m,(thg m r).2)
def ok_iEagerWrite (x:Ml × Rf × Int × List UInt8):Prop:=ok_RmS x.1.rooms∧ok_LI x.1.log∧ok_LB x.2.2.2
def ea_iEagerWrite (x:Ml × Rf × Int × List UInt8):List Arg:=[aR x.1.cs,aR x.2.1.cs,aI x.2.2.1,aT (eB x.2.2.2)]
def f_iEagerWrite (x:Ml × Rf × Int × List UInt8):Ml × Int:=wrtM x.1 x.2.1 x.2.2.1 x.2.2.2
noncomputable def e_iEagerWrite:Ent:=ent [] ok_iEagerWrite ea_iEagerWrite (fun (x:Ml × Int)=>([oR x.1.cs,oT (.int .i64 x.2)],[nul,nul,nul,nul])) f_iEagerWrite
theorem ea_iEagerWrite_inj (x y:Ml × Rf × Int × List UInt8) (h:ea_iEagerWrite x=ea_iEagerWrite y):x=y:=by
 obtain ⟨m1,r1,k1,s1⟩:=x
 obtain ⟨m2,r2,k2,s2⟩:=y
 simp only [ea_iEagerWrite,List.cons.injEq,and_true,true_and] at h
 obtain ⟨e0,e1,e2,e3⟩:=h
 obtain rfl:=Ml.cs_ext (aR_inj e0)
 obtain rfl:=Rf.cs_ext (aR_inj e1)
 obtain rfl:=aI_inj e2
 obtain rfl:=eB_inj (aT_inj e3)
 rfl
theorem dm_iEagerWrite {m:Ml} {r:Rf} {k:Int} {s:List UInt8} (h:ok_iEagerWrite (m,r,k,s)):dom ok_iEagerWrite ea_iEagerWrite [(wMl m),(wRf r),(0,false,[C.tr false (T.int i64 k)]),(0,false,[C.tr false (T.arr 1 s.length (atL rowB s))])]=true:=dom_ea (ea:=ea_iEagerWrite) (x:=(m,r,k,s)) h
theorem iv_iEagerWrite {m:Ml} {r:Rf} {k:Int} {s:List UInt8} (h:ok_iEagerWrite (m,r,k,s)):inv ok_iEagerWrite ea_iEagerWrite [(wMl m),(wRf r),(0,false,[C.tr false (T.int i64 k)]),(0,false,[C.tr false (T.arr 1 s.length (atL rowB s))])]=(m,r,k,s):=inv_ea ea_iEagerWrite_inj (x:=(m,r,k,s)) h
theorem d_iEagerWrite (m:Ml) (r:Rf) (k:Int) (s:List UInt8):f_iEagerWrite (m,r,k,s)=wrtM m r k s:=rfl
def i_iEagerWrite:Nat:=62
noncomputable abbrev F_iEagerWrite:Func:=f62
def kp_iEagerWrite:List (Nat × List Nat):=[(0,[8,12,16,17,20,21,32,33,40,41,64,100,184,232]),(1,[8,12,16,17,20,21,32,33,40,41,64,100,184,232]),(2,[8,12,16,17,20,21,32,33,40,41,44,48,64,100,184,232]),(3,[8,12,16,17,20,21,32,33,40,41,44,48,64,96,100,184,232]),(4,[32,33,36,40,41,64,100,184,232]),(5,[20,21,32,33,40,41,44,52,56,64,100,184,232]),(6,[20,21,32,33,40,41,44,52,64,100,180,184,232]),(7,[32,33,36,40,41,64,100,184,232]),(8,[32,33,40,41,64,100,184,232]),(9,[32,33,36,40,41,64,100,184,232])]
noncomputable abbrev tb36:Sems:=tabS [(i_iModel,e_iModel),(i_iThg,e_iThg),(i_iPutAt,e_iPutAt)]
theorem pre_iEagerWrite (m:Ml) (r:Rf) (k:Int) (s:List UInt8) (n:Nat):body prog tb36 kp_iEagerWrite n F_iEagerWrite [aR m.cs,aR r.cs,aI k,aT (eB s)]=(entK ok_iModel ea_iModel (f_iModel) [(wMl m)] fun (r1:Ml)=>gl r1.2.length<|gl r1.3.length<|entK ok_iThg ea_iThg (f_iThg) [(wMl m),(wRf r)] fun (r2:Int × Int)=>let q0:=atL Rm.cs r1.2 (0+r2.1.toNat) (9+0);bif r2.2 != 0 then gl r1.2.length<|gl r1.3.length<|gl r1.2.length<|gl r1.3.length<|some ([(oR (Ml.cs r1)),(false,[.tr true (T.int i64 r2.2)])],[(false,[]),(false,[]),(false,[]),(false,[])]) else gd (decide (0≤r2.1)&&(r2.1.toNat.blt m.2.length&&true))<|gd ((atL Rm.cs m.2 r2.1.toNat 9).isArr&&(atL Rm.cs m.2 r2.1.toNat 9).wd.beq 1)<|gd (decide (0≤r.3)&&(r.3.toNat.blt (atL Rm.cs m.2 r2.1.toNat 9).ln&&true))<|gd (((atL Rm.cs m.2 r2.1.toNat 9).fn r.3.toNat 0).isArr&&((atL Rm.cs m.2 r2.1.toNat 9).fn r.3.toNat 0).wd.beq 1)<|entK ok_iPutAt ea_iPutAt (f_iPutAt) [(0,false,[C.tr false (T.arr 1 ((atL Rm.cs m.2 r2.1.toNat 9).fn r.3.toNat 0).ln ((atL Rm.cs m.2 r2.1.toNat 9).fn r.3.toNat 0).fn)]),(0,false,[C.tr false (T.int i64 k)]),(0,false,[C.tr false (T.arr 1 s.length (atL rowB s))])] fun (r3:List UInt8 × Bool)=>gl r3.1.length<|bif !r3.2 then gl r1.2.length<|gl r1.3.length<|gl r1.2.length<|gl r1.3.length<|some ([(oR (Ml.cs r1)),(false,[.tr true (T.int i64 7)])],[(false,[]),(false,[]),(false,[]),(false,[])]) else gd (decide (0≤r2.1)&&(r2.1.toNat.blt r1.2.length&&true))<|gd ((0+r2.1.toNat).blt r1.2.length&&true&&(q0.isArr&&q0.wd.beq 1))<|gd (decide (0≤r.3)&&(r.3.toNat.blt q0.ln&&true))<|gl r3.1.length<|gd ((0+r2.1.toNat).blt r1.2.length&&true&&true&&(((T.arr 11 r1.2.length (eL 11 Rm.cs r1.2).fn).get [0+r2.1.toNat,9+0]).isArr&&Nat.beq 1 ((T.arr 11 r1.2.length (eL 11 Rm.cs r1.2).fn).get [0+r2.1.toNat,9+0]).wd)&&((0+r2.1.toNat).blt r1.2.length&&true&&q0.okAt [0+r.3.toNat,0]))<|gl r1.2.length<|gl r1.3.length<|gl r1.2.length<|gl r1.3.length<|some ([(true,[.tr true (T.int i64 r1.c.1),.tr true (T.int i64 r1.c.2),.tr true (T.int i64 r1.c.3),.tr true (T.int i64 r1.c.4),.tr true (T.int i64 r1.c.5),.tr true (T.int i64 r1.c.6),.tr true (.arr (11) (r1.2.length) (setF (0+r2.1.toNat) 9 ((atL Rm.cs r1.2 (0+r2.1.toNat) 9).set [0+r.3.toNat,0] (T.arr 1 r3.1.length (atL rowB r3.1))) (eL 11 Rm.cs r1.2).fn)),.tr true (.arr (1) (r1.3.length) ((eL 1 rowI r1.3).fn))]),(false,[.tr true (T.int i64 0)])],[(false,[]),(false,[]),(false,[]),(false,[])])):=by kernel_rfl
def ok_sEagerWrite (x:Ml × Rf × Int × List UInt8):Prop:=ok_RmS x.1.rooms∧ok_LI x.1.log∧ok_LB x.2.2.2
def ea_sEagerWrite (x:Ml × Rf × Int × List UInt8):List Arg:=[aR x.1.cs,aR x.2.1.cs,aI x.2.2.1,aT (eB x.2.2.2)]
def f_sEagerWrite (x:Ml × Rf × Int × List UInt8):Ml × Int:=wrtM x.1 x.2.1 x.2.2.1 x.2.2.2
noncomputable def e_sEagerWrite:Ent:=ent [] ok_sEagerWrite ea_sEagerWrite (fun (x:Ml × Int)=>([oR x.1.cs,oT (.int .i64 x.2)],[nul,nul,nul,nul])) f_sEagerWrite
theorem ea_sEagerWrite_inj (x y:Ml × Rf × Int × List UInt8) (h:ea_sEagerWrite x=ea_sEagerWrite y):x=y:=by
 obtain ⟨m1,r1,k1,s1⟩:=x
 obtain ⟨m2,r2,k2,s2⟩:=y
 simp only [ea_sEagerWrite,List.cons.injEq,and_true,true_and] at h
 obtain ⟨e0,e1,e2,e3⟩:=h
 obtain rfl:=Ml.cs_ext (aR_inj e0)
 obtain rfl:=Rf.cs_ext (aR_inj e1)
 obtain rfl:=aI_inj e2
 obtain rfl:=eB_inj (aT_inj e3)
 rfl
theorem dm_sEagerWrite {m:Ml} {r:Rf} {k:Int} {s:List UInt8} (h:ok_sEagerWrite (m,r,k,s)):dom ok_sEagerWrite ea_sEagerWrite [(wMl m),(wRf r),(0,false,[C.tr false (T.int i64 k)]),(0,false,[C.tr false (T.arr 1 s.length (atL rowB s))])]=true:=dom_ea (ea:=ea_sEagerWrite) (x:=(m,r,k,s)) h
theorem iv_sEagerWrite {m:Ml} {r:Rf} {k:Int} {s:List UInt8} (h:ok_sEagerWrite (m,r,k,s)):inv ok_sEagerWrite ea_sEagerWrite [(wMl m),(wRf r),(0,false,[C.tr false (T.int i64 k)]),(0,false,[C.tr false (T.arr 1 s.length (atL rowB s))])]=(m,r,k,s):=inv_ea ea_sEagerWrite_inj (x:=(m,r,k,s)) h
theorem d_sEagerWrite (m:Ml) (r:Rf) (k:Int) (s:List UInt8):f_sEagerWrite (m,r,k,s)=wrtM m r k s:=rfl
def i_sEagerWrite:Nat:=47
noncomputable abbrev F_sEagerWrite:Func:=f47
def kp_sEagerWrite:List (Nat × List Nat):=[(0,[8,12,16,17,20,21,32,33,40,41,64,100,184,232]),(1,[8,12,16,17,20,21,32,33,40,41,64,100,184,232]),(2,[8,12,16,17,20,21,32,33,40,41,44,48,64,100,184,232]),(3,[8,12,16,17,20,21,32,33,40,41,44,48,64,96,100,184,232]),(4,[32,33,36,40,41,64,100,184,232]),(5,[20,21,32,33,40,41,44,52,56,64,100,184,232]),(6,[20,21,32,33,40,41,44,52,64,100,180,184,232]),(7,[32,33,36,40,41,64,100,184,232]),(8,[32,33,40,41,64,100,184,232]),(9,[32,33,36,40,41,64,100,184,232])]
noncomputable abbrev tb37:Sems:=tabS [(i_sModel,e_sModel),(i_sThg,e_sThg),(i_sPutAt,e_sPutAt)]
theorem pre_sEagerWrite (m:Ml) (r:Rf) (k:Int) (s:List UInt8) (n:Nat):body prog tb37 kp_sEagerWrite n F_sEagerWrite [aR m.cs,aR r.cs,aI k,aT (eB s)]=(entK ok_sModel ea_sModel (f_sModel) [(wMl m)] fun (r1:Ml)=>gl r1.2.length<|gl r1.3.length<|entK ok_sThg ea_sThg (f_sThg) [(wMl m),(wRf r)] fun (r2:Int × Int)=>let q0:=atL Rm.cs r1.2 (0+r2.1.toNat) (9+0);bif r2.2 != 0 then gl r1.2.length<|gl r1.3.length<|gl r1.2.length<|gl r1.3.length<|some ([(oR (Ml.cs r1)),(false,[.tr true (T.int i64 r2.2)])],[(false,[]),(false,[]),(false,[]),(false,[])]) else gd (decide (0≤r2.1)&&(r2.1.toNat.blt m.2.length&&true))<|gd ((atL Rm.cs m.2 r2.1.toNat 9).isArr&&(atL Rm.cs m.2 r2.1.toNat 9).wd.beq 1)<|gd (decide (0≤r.3)&&(r.3.toNat.blt (atL Rm.cs m.2 r2.1.toNat 9).ln&&true))<|gd (((atL Rm.cs m.2 r2.1.toNat 9).fn r.3.toNat 0).isArr&&((atL Rm.cs m.2 r2.1.toNat 9).fn r.3.toNat 0).wd.beq 1)<|entK ok_sPutAt ea_sPutAt (f_sPutAt) [(0,false,[C.tr false (T.arr 1 ((atL Rm.cs m.2 r2.1.toNat 9).fn r.3.toNat 0).ln ((atL Rm.cs m.2 r2.1.toNat 9).fn r.3.toNat 0).fn)]),(0,false,[C.tr false (T.int i64 k)]),(0,false,[C.tr false (T.arr 1 s.length (atL rowB s))])] fun (r3:List UInt8 × Bool)=>gl r3.1.length<|bif !r3.2 then gl r1.2.length<|gl r1.3.length<|gl r1.2.length<|gl r1.3.length<|some ([(oR (Ml.cs r1)),(false,[.tr true (T.int i64 7)])],[(false,[]),(false,[]),(false,[]),(false,[])]) else gd (decide (0≤r2.1)&&(r2.1.toNat.blt r1.2.length&&true))<|gd ((0+r2.1.toNat).blt r1.2.length&&true&&(q0.isArr&&q0.wd.beq 1))<|gl r3.1.length<|gd (decide (0≤r.3)&&(r.3.toNat.blt q0.ln&&true))<|gl r3.1.length<|gd ((0+r2.1.toNat).blt r1.2.length&&true&&true&&(((T.arr 11 r1.2.length (eL 11 Rm.cs r1.2).fn).get [0+r2.1.toNat,9+0]).isArr&&Nat.beq 1 ((T.arr 11 r1.2.length (eL 11 Rm.cs r1.2).fn).get [0+r2.1.toNat,9+0]).wd)&&((0+r2.1.toNat).blt r1.2.length&&true&&q0.okAt [0+r.3.toNat,0]))<|gl r1.2.length<|gl r1.3.length<|gl r1.2.length<|gl r1.3.length<|some ([(true,[.tr true (T.int i64 r1.c.1),.tr true (T.int i64 r1.c.2),.tr true (T.int i64 r1.c.3),.tr true (T.int i64 r1.c.4),.tr true (T.int i64 r1.c.5),.tr true (T.int i64 r1.c.6),.tr true (.arr (11) (r1.2.length) (setF (0+r2.1.toNat) 9 ((atL Rm.cs r1.2 (0+r2.1.toNat) 9).set [0+r.3.toNat,0] (T.arr 1 r3.1.length (atL rowB r3.1))) (eL 11 Rm.cs r1.2).fn)),.tr true (.arr (1) (r1.3.length) ((eL 1 rowI r1.3).fn))]),(false,[.tr true (T.int i64 0)])],[(false,[]),(false,[]),(false,[]),(false,[])])):=by kernel_rfl
end Go.Mach.F
namespace Go.Mach.F
open Go Go.Mach Go.Proofs.Tryz
theorem pua_len (l:List UInt8) (k:Int) (s:List UInt8):(pua l k s).1.length=l.length:=by
 by_cases h:0≤k∧k+(s.length:Int)≤(l.length:Int)
 ·rw [pua_of h.1 h.2]
  exact spl_len (by omega)
 ·rw [pua_no h]
theorem body_iEagerWrite (m:Ml) (r:Rf) (k:Int) (s:List UInt8) (n:Nat) (h0:ok_iEagerWrite (m,r,k,s)):body prog tb36 kp_iEagerWrite n F_iEagerWrite (ea_iEagerWrite (m,r,k,s))=some ([oR (f_iEagerWrite (m,r,k,s)).1.cs,oT (.int .i64 (f_iEagerWrite (m,r,k,s)).2)],[nul,nul,nul,nul]):=by
 have hlm:=lm
 obtain ⟨⟨h1,h2⟩,h3⟩:(ok_RmS m.rooms∧ok_LI m.log)∧ok_LB s:=⟨⟨h0.1,h0.2.1⟩,h0.2.2⟩
 have hl:m.rooms.length≤LM:=h1.1
 have c0:ok_iModel m:=⟨h1,h2⟩
 have c1:ok_iThg (m,r):=hl
 unfold ea_iEagerWrite f_iEagerWrite wrtM
 dsimp only
 rw [pre_iEagerWrite]
 try simp only [eL_T,Ml.cs,Rf.cs]
 rw [entK_of (dm_iModel c0) (iv_iModel c0)]
 simp only [d_iModel,rsx0,ble_d,Nat.le_refl]
 rw [entK_of (dm_iThg c1) (iv_iThg c1)]
 simp only [d_iThg,int_ne,int_eq]
 by_cases e:(thg m r).2=0
 case neg =>
  simp only [e,decide_false,Bool.not_false,cond_true,cond_false]
  rfl
 have hk:=thg_ok e
 have hx:=getD_get hk.1.2
 have ht:=things_get hk.2.2
 have hy:=h1.2 _ (List.mem_of_getElem? hx)
 have c2:ok_iPutAt (thB m r,k,s):=⟨hy.2.1.2 _ (List.mem_of_getElem? ht),h3⟩
 have e0:=hk.1.1
 have e1:=hk.1.2
 have e2:=hk.2.1
 have e3:=hk.2.2
 obtain ⟨x,hxe⟩:∃ x,x=m.rooms.getD (thg m r).1.toNat zRm:=⟨_,rfl⟩
 obtain ⟨u,hse⟩:∃ u,u=x.things.getD r.no.toNat ⟨[]⟩:=⟨_,rfl⟩
 have hb:thB m r=u.b:=by rw [hse,hxe];rfl
 rw [← hxe] at hx ht e3 ⊢
 rw [← hse] at ht
 rw [hb] at c2 ⊢
 simp only [rsx0,e,e0,e1,e2,e3,Nat.add_zero,Bool.not_true,cond_false,atL_of hx,Rm.cs,atL_of ht,Sf.cs,eL_T]
 rw [entK_of (dm_iPutAt c2) (iv_iPutAt c2)]
 have hpl:=pua_len u.b k s
 simp only [d_iPutAt,rsx0,ble_d,Nat.le_refl,T.get,T.okAt,T.set,e3]
 cases hpu:(pua u.b k s).2 with
 | false =>
  simp only [Bool.not_false,cond_true,cond_false]
  rfl
 | true =>
  simp only [Bool.not_true,cond_true,cond_false]
  have hs1:setF r.no.toNat 0 (T.arr 1 (pua u.b k s).1.length (atL rowB (pua u.b k s).1)) (atL Sf.cs x.things)=atL Sf.cs (x.things.set r.no.toNat ⟨(pua u.b k s).1⟩):=setF_list ht rfl (by decide:0 < 1)
  rw [hs1,setF_list (y:=wrtR x r.no.toNat (pua u.b k s).1) hx (by simp only [Rm.cs,wrtR,eL_T,List.length_set];rfl) (by decide:9 < 11)]
  simp only [oR,Ml.cs,eL_T,List.length_set]
  rfl
theorem s_iEagerWrite:EntOk prog i_iEagerWrite e_iEagerWrite:=ent_ok ea_iEagerWrite_inj fun x hx =>
 body_sound (φ:=tb36) (tabS_cons s_iModel (tabS_cons s_iThg (tabS_cons s_iPutAt tabS_nil))) mixed (kp:=kp_iEagerWrite) (n:=0) func62 (c:=bodyOf F_iEagerWrite) (by kernel_rfl) (body_iEagerWrite x.1 x.2.1 x.2.2.1 x.2.2.2 (0) hx) (name_ok (by kernel_rfl))
theorem body_sEagerWrite (m:Ml) (r:Rf) (k:Int) (s:List UInt8) (n:Nat) (h0:ok_sEagerWrite (m,r,k,s)):body prog tb37 kp_sEagerWrite n F_sEagerWrite (ea_sEagerWrite (m,r,k,s))=some ([oR (f_sEagerWrite (m,r,k,s)).1.cs,oT (.int .i64 (f_sEagerWrite (m,r,k,s)).2)],[nul,nul,nul,nul]):=by
 have hlm:=lm
 obtain ⟨⟨h1,h2⟩,h3⟩:(ok_RmS m.rooms∧ok_LI m.log)∧ok_LB s:=⟨⟨h0.1,h0.2.1⟩,h0.2.2⟩
 have hl:m.rooms.length≤LM:=h1.1
 have c0:ok_sModel m:=⟨h1,h2⟩
 have c1:ok_sThg (m,r):=hl
 unfold ea_sEagerWrite f_sEagerWrite wrtM
 dsimp only
 rw [pre_sEagerWrite]
 try simp only [eL_T,Ml.cs,Rf.cs]
 rw [entK_of (dm_sModel c0) (iv_sModel c0)]
 simp only [d_sModel,rsx0,ble_d,Nat.le_refl]
 rw [entK_of (dm_sThg c1) (iv_sThg c1)]
 simp only [d_sThg,int_ne,int_eq]
 by_cases e:(thg m r).2=0
 case neg =>
  simp only [e,decide_false,Bool.not_false,cond_true,cond_false]
  rfl
 have hk:=thg_ok e
 have hx:=getD_get hk.1.2
 have ht:=things_get hk.2.2
 have hy:=h1.2 _ (List.mem_of_getElem? hx)
 have c2:ok_sPutAt (thB m r,k,s):=⟨hy.2.1.2 _ (List.mem_of_getElem? ht),h3⟩
 have e0:=hk.1.1
 have e1:=hk.1.2
 have e2:=hk.2.1
 have e3:=hk.2.2
 obtain ⟨x,hxe⟩:∃ x,x=m.rooms.getD (thg m r).1.toNat zRm:=⟨_,rfl⟩
 obtain ⟨u,hse⟩:∃ u,u=x.things.getD r.no.toNat ⟨[]⟩:=⟨_,rfl⟩
 have hb:thB m r=u.b:=by rw [hse,hxe];rfl
 rw [← hxe] at hx ht e3 ⊢
 rw [← hse] at ht
 rw [hb] at c2 ⊢
 simp only [rsx0,e,e0,e1,e2,e3,Nat.add_zero,Bool.not_true,cond_false,atL_of hx,Rm.cs,atL_of ht,Sf.cs,eL_T]
 rw [entK_of (dm_sPutAt c2) (iv_sPutAt c2)]
 have hpl:=pua_len u.b k s
 simp only [d_sPutAt,rsx0,ble_d,Nat.le_refl,T.get,T.okAt,T.set,e3]
 cases hpu:(pua u.b k s).2 with
 | false =>
  simp only [Bool.not_false,cond_true,cond_false]
  rfl
 | true =>
  simp only [Bool.not_true,cond_true,cond_false]
  have hs1:setF r.no.toNat 0 (T.arr 1 (pua u.b k s).1.length (atL rowB (pua u.b k s).1)) (atL Sf.cs x.things)=atL Sf.cs (x.things.set r.no.toNat ⟨(pua u.b k s).1⟩):=setF_list ht rfl (by decide:0 < 1)
  rw [hs1,setF_list (y:=wrtR x r.no.toNat (pua u.b k s).1) hx (by simp only [Rm.cs,wrtR,eL_T,List.length_set];rfl) (by decide:9 < 11)]
  simp only [oR,Ml.cs,eL_T,List.length_set]
  rfl
theorem s_sEagerWrite:EntOk prog i_sEagerWrite e_sEagerWrite:=ent_ok ea_sEagerWrite_inj fun x hx =>
 body_sound (φ:=tb37) (tabS_cons s_sModel (tabS_cons s_sThg (tabS_cons s_sPutAt tabS_nil))) mixed (kp:=kp_sEagerWrite) (n:=0) func47 (c:=bodyOf F_sEagerWrite) (by kernel_rfl) (body_sEagerWrite x.1 x.2.1 x.2.2.1 x.2.2.2 (0) hx) (name_ok (by kernel_rfl))
end Go.Mach.F
namespace Go.Mach.F
open Go Go.Mach Go.Proofs.Tryz Go.IntKind
--=set_option maxRecDepth 100000
/-- What EagerGive's test captures. -/
structure Dc where
 met:List Hd
 whole:Bool
 h:Hd
 deriving Inhabited
def aDc (i:Nat) (x:Dc):Arg:=(0,false,[.fn i [Pt.pim 1 (pimF [eL 2 Hd.cs x.met]),Pt.pim 1 (pimF [.bool x.whole]),Pt.pim 2 (pimF x.h.cs)]])
theorem aDc_inj {i:Nat} {x y:Dc} (h:aDc i x=aDc i y):x=y:=by
 obtain ⟨m1,w1,h1⟩:=x
 obtain ⟨m2,w2,h2⟩:=y
 simp only [aDc,Prod.mk.injEq,true_and,List.cons.injEq,and_true,C.fn.injEq,Pt.pim.injEq] at h
 obtain ⟨e0,e1,e2⟩:=h
 have f0:=congrFun e0 0
 have f1:=congrFun e1 0
 have f2:=congrFun e2 0
 have f3:=congrFun e2 1
 obtain rfl:=eL_inj Hd.cs_inj f0
 cases f1
 rcases h1 with ⟨_,_⟩
 rcases h2 with ⟨_,_⟩
 cases f2
 cases f3
 rfl
/-- What goes. -/
def gvK (c:Dc) (r:Rm):Bool:=hasH c.met r.h&&(c.whole || !decide (r.h=c.h))
def ixP {α:Type} (p:α→Bool) (l:List α):Int:=match (List.range l.length).find? (fun i=>(l[i]?.map p).getD false) with | some i=>(i:Int) | none=>-1
def i_Give1:Nat:=130
noncomputable abbrev F_Give1:Func:=f130
def kp_Give1:List (Nat × List Nat):=[(0,[4,8,12,16,17,44,48,52,56,60,64,68]),(1,[20])]
noncomputable def e_Give1:Ent:=inl [0,0,0,0] prog (tabS [(i_ConH,e_ConH)]) kp_Give1 0 F_Give1
theorem s_Give1:EntOk prog i_Give1 e_Give1:=inl_ok (tabS_cons s_ConH tabS_nil) mixed (c:=bodyOf F_Give1) func130 (by kernel_rfl) (name_ok (by kernel_rfl))
def ok_ixR (x:List Rm × Dc):Prop:=x.1.length≤LM∧x.2.met.length≤LM
def ea_ixR (x:List Rm × Dc):List Arg:=[aT (eL 11 Rm.cs x.1),aDc i_Give1 x.2]
def f_ixR (x:List Rm × Dc):Int:=ixP (gvK x.2) x.1
noncomputable def e_ixR:Ent:=ent [] ok_ixR ea_ixR (erI 2) f_ixR
theorem ea_ixR_inj (x y:List Rm × Dc) (h:ea_ixR x=ea_ixR y):x=y:=by
 obtain ⟨l1,c1⟩:=x
 obtain ⟨l2,c2⟩:=y
 simp only [ea_ixR,List.cons.injEq,and_true,true_and] at h
 obtain ⟨e0,e1⟩:=h
 obtain rfl:=eL_inj Rm.cs_inj (aT_inj e0)
 obtain rfl:=aDc_inj e1
 rfl
theorem dm_ixR {l:List Rm} {c:Dc} (h:ok_ixR (l,c)):dom ok_ixR ea_ixR [(0,false,[C.tr false (T.arr 11 l.length (atL Rm.cs l))]),(0,false,[C.fn 130 [Pt.pim 1 (pimF [T.arr 2 c.met.length (atL Hd.cs c.met)]),Pt.pim 1 (pimF [T.bool c.whole]),Pt.pim 2 (pimF [T.int i64 c.h.slot,T.int i64 c.h.gen])]])]=true:=dom_ea (ea:=ea_ixR) (x:=(l,c)) h
theorem iv_ixR {l:List Rm} {c:Dc} (h:ok_ixR (l,c)):inv ok_ixR ea_ixR [(0,false,[C.tr false (T.arr 11 l.length (atL Rm.cs l))]),(0,false,[C.fn 130 [Pt.pim 1 (pimF [T.arr 2 c.met.length (atL Hd.cs c.met)]),Pt.pim 1 (pimF [T.bool c.whole]),Pt.pim 2 (pimF [T.int i64 c.h.slot,T.int i64 c.h.gen])]])]=(l,c):=inv_ea ea_ixR_inj (x:=(l,c)) h
theorem d_ixR (l:List Rm) (c:Dc):f_ixR (l,c)=ixP (gvK c) l:=rfl
def i_ixR:Nat:=116
noncomputable abbrev F_ixR:Func:=f116
def kp_ixR:List (Nat × List Nat):=[(0,[0,4]),(1,[0,4,28,32]),(2,[0,4,28,32,36]),(3,[0,4,20,28,32]),(4,[0,4,20,28,32,64]),(5,[16]),(6,[0,4,28,32]),(7,[16])]
def ts_ixR:List Nat:=[0,0]
def st_ixR_1 (l:List Rm) (c:Dc) (x32:Int):St:=[(0,⟨z0,[(false,[.tr false (eL 11 Rm.cs l)])]⟩),(4,⟨z0,[(false,[(C.fn 130 [Pt.pim 1 (pimF [eL 2 Hd.cs c.1]),Pt.pim 1 (pimF [T.bool c.2]),Pt.pim 2 (pimF [T.int i64 c.h.1,T.int i64 c.h.2])])])]⟩),(28,⟨z0,[(false,[.tr true (T.int i64 (↑l.length:Int))])]⟩),(32,⟨z0,[(false,[.tr true (T.int i64 x32)])]⟩)]
def ex_ixR_1_1 (l:List Rm) (c:Dc) (x32:Int):St:=[(16,⟨z0,[(false,[.tr true (T.int i64 x32)])]⟩)]
def ex_ixR_1_2 (l:List Rm) (c:Dc) (x32:Int):St:=[(0,⟨z0,[(false,[.tr false (eL 11 Rm.cs l)])]⟩),(4,⟨z0,[(false,[(C.fn 130 [Pt.pim 1 (pimF [eL 2 Hd.cs c.1]),Pt.pim 1 (pimF [T.bool c.2]),Pt.pim 2 (pimF [T.int i64 c.h.1,T.int i64 c.h.2])])])]⟩),(28,⟨z0,[(false,[.tr true (T.int i64 (↑l.length:Int))])]⟩),(32,⟨z0,[(false,[.tr true (T.int i64 x32)])]⟩),(36,⟨z0,[]⟩)]
theorem round_ixR_1 (l:List Rm) (c:Dc) (x32:Int) (n:Nat) (K:Ex→St→Res):roundAt prog (tabS [(i_Give1,e_Give1)]) kp_ixR F_ixR [1,0,1,0] n (st_ixR_1 l c x32) K=(bif decide (x32 < (↑l.length:Int)) then gd (decide (0≤x32)&&(x32.toNat.blt l.length&&true))<|gd (T.isI i64 (atL Rm.cs l x32.toNat 0)&&T.isI i64 (atL Rm.cs l x32.toNat 1)&&T.isI i64 (atL Rm.cs l x32.toNat 2)&&T.isI i64 (atL Rm.cs l x32.toNat 3)&&((atL Rm.cs l x32.toNat 4).isArr&&(atL Rm.cs l x32.toNat 4).wd.beq 2)&&T.isI i64 (atL Rm.cs l x32.toNat 5)&&T.isI i64 (atL Rm.cs l x32.toNat 6)&&(atL Rm.cs l x32.toNat 7).isB&&T.isI i64 (atL Rm.cs l x32.toNat 8)&&((atL Rm.cs l x32.toNat 9).isArr&&(atL Rm.cs l x32.toNat 9).wd.beq 1)&&((atL Rm.cs l x32.toNat 10).isArr&&(atL Rm.cs l x32.toNat 10).wd.beq 1))<|entK ok_idHd ea_idHd (f_idHd) [(0,false,[C.tr false (T.arr 2 c.1.length (atL Hd.cs c.1))]),(0,true,[C.tr false (T.int i64 (atL Rm.cs l x32.toNat 0).toI),C.tr false (T.int i64 (atL Rm.cs l x32.toNat 1).toI)])] fun (r1:Int)=>bif decide (0≤r1) then bif (T.bool c.2).toB then K .ret (ex_ixR_1_1 l c x32) else bif !bif (atL Rm.cs l x32.toNat 0).toI == (T.int i64 c.h.1).toI then bif (atL Rm.cs l x32.toNat 1).toI == (T.int i64 c.h.2).toI then true else false else false then K .ret (ex_ixR_1_1 l c x32) else K .normal (st_ixR_1 l c (i64.wrap (x32+1))) else K .normal (st_ixR_1 l c (i64.wrap (x32+1))) else K (.exit 0) (ex_ixR_1_2 l c x32)):=by kernel_rfl
theorem post_ixR_1_1 (l:List Rm) (c:Dc) (x32:Int) (n:Nat):contAt prog (tabS [(i_Give1,e_Give1)]) kp_ixR F_ixR ts_ixR [1,0,1,0] [] n .ret (ex_ixR_1_1 l c x32)=(some ([(false,[.tr true (T.int i64 x32)])],[(false,[]),(false,[])])):=by kernel_rfl
theorem post_ixR_1_2 (l:List Rm) (c:Dc) (x32:Int) (n:Nat):contAt prog (tabS [(i_Give1,e_Give1)]) kp_ixR F_ixR ts_ixR [1,0,1,0] [] n (.exit 0) (ex_ixR_1_2 l c x32)=(some ([(false,[.tr true (T.int i64 (-1))])],[(false,[]),(false,[])])):=by kernel_rfl
theorem pre_ixR (l:List Rm) (c:Dc) (n:Nat):body prog (tabS [(i_Give1,e_Give1)]) kp_ixR n F_ixR [aT (eL 11 Rm.cs l),aDc i_Give1 c]=(loopAt prog (tabS [(i_Give1,e_Give1)]) kp_ixR F_ixR [1,0,1,0] n n (st_ixR_1 l c (0)) (contAt prog (tabS [(i_Give1,e_Give1)]) kp_ixR F_ixR ts_ixR [1,0,1,0] [] n)):=by kernel_rfl
def ok_delR (x:List Rm × Dc):Prop:=x.1.length≤LM∧x.2.met.length≤LM
def ea_delR (x:List Rm × Dc):List Arg:=[vT (eL 11 Rm.cs x.1),aDc i_Give1 x.2]
def f_delR (x:List Rm × Dc):List Rm:=x.1.filter (fun y=>!gvK x.2 y)
noncomputable def e_delR:Ent:=ent [3] ok_delR ea_delR (fun l=>([oT (eL 11 Rm.cs l)],[nul,nul])) f_delR
theorem ea_delR_inj (x y:List Rm × Dc) (h:ea_delR x=ea_delR y):x=y:=by
 obtain ⟨l1,c1⟩:=x
 obtain ⟨l2,c2⟩:=y
 simp only [ea_delR,List.cons.injEq,and_true,true_and] at h
 obtain ⟨e0,e1⟩:=h
 obtain rfl:=eL_inj Rm.cs_inj (vT_inj e0)
 obtain rfl:=aDc_inj e1
 rfl
theorem dm_delR {l:List Rm} {c:Dc} (h:ok_delR (l,c)):dom ok_delR ea_delR [(3,false,[C.tr true (T.arr 11 l.length (atL Rm.cs l))]),(0,false,[C.fn 130 [Pt.pim 1 (pimF [T.arr 2 c.met.length (atL Hd.cs c.met)]),Pt.pim 1 (pimF [T.bool c.whole]),Pt.pim 2 (pimF [T.int i64 c.h.slot,T.int i64 c.h.gen])]])]=true:=dom_ea (ea:=ea_delR) (x:=(l,c)) h
theorem iv_delR {l:List Rm} {c:Dc} (h:ok_delR (l,c)):inv ok_delR ea_delR [(3,false,[C.tr true (T.arr 11 l.length (atL Rm.cs l))]),(0,false,[C.fn 130 [Pt.pim 1 (pimF [T.arr 2 c.met.length (atL Hd.cs c.met)]),Pt.pim 1 (pimF [T.bool c.whole]),Pt.pim 2 (pimF [T.int i64 c.h.slot,T.int i64 c.h.gen])]])]=(l,c):=inv_ea ea_delR_inj (x:=(l,c)) h
theorem d_delR (l:List Rm) (c:Dc):f_delR (l,c)=l.filter (fun y=>!gvK c y):=rfl
def i_delR:Nat:=129
noncomputable abbrev F_delR:Func:=f129
def kp_delR:List (Nat × List Nat):=[(0,[0,4,2]),(1,[0,4,20,2]),(2,[0,4,20,48,2]),(3,[16,2]),(4,[0,4,20,24,2]),(5,[0,4,20,24,76,2]),(6,[0,4,20,24,2]),(7,[0,4,20,24,28,29,88,92,96,100,2]),(8,[0,4,20,24,28,29,88,92,96,100,116,2]),(9,[0,4,20,24,2]),(10,[0,4,20,24,2]),(11,[0,20,2]),(12,[16,2])]
def ts_delR:List Nat:=[3,0]
def st_delR_1 (l:List Rm) (c:Dc) (nx0:Nat) (fx0:Nat→Nat→T) (x20:Int) (x24:Int):St:=[(0,⟨z0,[(false,[.tr true (.arr (11) (nx0) (fx0))])]⟩),(4,⟨z0,[(false,[(C.fn 130 [Pt.pim 1 (pimF [eL 2 Hd.cs c.1]),Pt.pim 1 (pimF [T.bool c.2]),Pt.pim 2 (pimF [T.int i64 c.h.1,T.int i64 c.h.2])])])]⟩),(20,⟨z0,[(false,[.tr true (T.int i64 x20)])]⟩),(24,⟨z0,[(false,[.tr true (T.int i64 x24)])]⟩)]
def ex_delR_1_1 (l:List Rm) (c:Dc) (nx0:Nat) (fx0:Nat→Nat→T) (x20:Int) (x24:Int):St:=[(0,⟨z0,[(false,[.tr true (.arr (11) (nx0) (fx0))])]⟩),(4,⟨z0,[(false,[(C.fn 130 [Pt.pim 1 (pimF [eL 2 Hd.cs c.1]),Pt.pim 1 (pimF [T.bool c.2]),Pt.pim 2 (pimF [T.int i64 c.h.1,T.int i64 c.h.2])])])]⟩),(20,⟨z0,[(false,[.tr true (T.int i64 x20)])]⟩),(24,⟨z0,[(false,[.tr true (T.int i64 x24)])]⟩),(76,⟨z0,[]⟩)]
noncomputable abbrev tb38:Sems:=tabS [(i_ixR,e_ixR),(i_Give1,e_Give1)]
theorem round_delR_1 (l:List Rm) (c:Dc) (nx0:Nat) (fx0:Nat→Nat→T) (x20:Int) (x24:Int) (n:Nat) (K:Ex→St→Res):roundAt prog tb38 kp_delR F_delR [1,1,1,0,1,0] n (st_delR_1 l c nx0 fx0 x20 x24) K=(let q0:=setF (0+x24.toNat) 4 T.hole fx0;let q1:=setF (0+x24.toNat) 9 T.hole q0;let q2:=setF (0+x24.toNat) 10 T.hole q1;let q3:=setF (0+x20.toNat) 0 (T.int i64 (fx0 (0+x24.toNat) 0).toI) q2;let q4:=setF (0+x20.toNat) 1 (T.int i64 (fx0 (0+x24.toNat) 1).toI) q3;let q5:=setF (0+x20.toNat) 2 (T.int i64 (fx0 (0+x24.toNat) 2).toI) q4;let q6:=setF (0+x20.toNat) 3 (T.int i64 (fx0 (0+x24.toNat) 3).toI) q5;let q7:=T.arr 1 (fx0 (0+x24.toNat) 9).ln ((T.arr 11 nx0 q0).get [0+x24.toNat,9]).fn;let q8:=T.arr 2 (fx0 (0+x24.toNat) 4).ln ((T.arr 11 nx0 fx0).get [0+x24.toNat,4]).fn;let q9:=T.arr 1 (fx0 (0+x24.toNat) 10).ln ((T.arr 11 nx0 q1).get [0+x24.toNat,10]).fn;let q10:=setF (0+x20.toNat) (4+1) (T.int i64 (fx0 (0+x24.toNat) 5).toI) (setF (0+x20.toNat) 4 q8 q6);let q11:=setF (0+x20.toNat) (4+1+1) (T.int i64 (fx0 (0+x24.toNat) 6).toI) q10;let q12:=setF (0+x20.toNat) (4+1+1+1) (T.bool (fx0 (0+x24.toNat) 7).toB) q11;let q13:=setF (0+x20.toNat) (4+1+1+1+1) (T.int i64 (fx0 (0+x24.toNat) 8).toI) q12;let q14:=setF (0+x20.toNat) (4+1+1+1+1+1+1) q9 (setF (0+x20.toNat) (4+1+1+1+1+1) q7 q13);bif decide (x24 < (↑nx0:Int)) then gd (decide (0≤x24)&&(x24.toNat.blt nx0&&true))<|gd ((0+x24.toNat).blt nx0&&true&&(T.isI i64 (fx0 (0+x24.toNat) 0)&&T.isI i64 (fx0 (0+x24.toNat) 1)&&T.isI i64 (fx0 (0+x24.toNat) 2)&&T.isI i64 (fx0 (0+x24.toNat) 3)&&((fx0 (0+x24.toNat) 4).isArr&&(fx0 (0+x24.toNat) 4).wd.beq 2)&&T.isI i64 (fx0 (0+x24.toNat) 5)&&T.isI i64 (fx0 (0+x24.toNat) 6)&&(fx0 (0+x24.toNat) 7).isB&&T.isI i64 (fx0 (0+x24.toNat) 8)&&((fx0 (0+x24.toNat) 9).isArr&&(fx0 (0+x24.toNat) 9).wd.beq 1)&&((fx0 (0+x24.toNat) 10).isArr&&(fx0 (0+x24.toNat) 10).wd.beq 1)))<|gd ((0+x24.toNat).blt nx0&&true&&true&&((T.arr 11 nx0 fx0).get [0+x24.toNat,4]).isArr)<|gd ((fx0 (0+x24.toNat) 4).ln.ble ((T.arr 11 nx0 fx0).get [0+x24.toNat,4]).ln&&Nat.beq 2 ((T.arr 11 nx0 fx0).get [0+x24.toNat,4]).wd)<|gd ((0+x24.toNat).blt nx0&&true&&true&&((T.arr 11 nx0 q0).get [0+x24.toNat,9]).isArr)<|gd ((fx0 (0+x24.toNat) 9).ln.ble ((T.arr 11 nx0 q0).get [0+x24.toNat,9]).ln&&Nat.beq 1 ((T.arr 11 nx0 q0).get [0+x24.toNat,9]).wd)<|gd ((0+x24.toNat).blt nx0&&true&&true&&((T.arr 11 nx0 q1).get [0+x24.toNat,10]).isArr)<|gd ((fx0 (0+x24.toNat) 10).ln.ble ((T.arr 11 nx0 q1).get [0+x24.toNat,10]).ln&&Nat.beq 1 ((T.arr 11 nx0 q1).get [0+x24.toNat,10]).wd)<|gd ((0+(fx0 (0+x24.toNat) 4).ln).ble (fx0 (0+x24.toNat) 4).ln)<|gd ((0+(fx0 (0+x24.toNat) 9).ln).ble (fx0 (0+x24.toNat) 9).ln)<|gd ((0+(fx0 (0+x24.toNat) 10).ln).ble (fx0 (0+x24.toNat) 10).ln)<|entK ok_idHd ea_idHd (f_idHd) [(0,false,[C.tr false (T.arr 2 c.1.length (atL Hd.cs c.1))]),(0,true,[C.tr false (T.int i64 (fx0 (0+x24.toNat) 0).toI),C.tr false (T.int i64 (fx0 (0+x24.toNat) 1).toI)])] fun (r2:Int)=>bif decide (0≤r2) then bif (T.bool c.2).toB then K .normal (st_delR_1 l c (nx0) q2 (x20) (i64.wrap (x24+1))) else bif !!bif (fx0 (0+x24.toNat) 0).toI == (T.int i64 c.h.1).toI then bif (fx0 (0+x24.toNat) 1).toI == (T.int i64 c.h.2).toI then true else false else false then gd (decide (0≤x20)&&(x20.toNat.blt nx0&&true))<|gd ((fx0 (0+x24.toNat) 4).ln.ble (fx0 (0+x24.toNat) 4).ln&&true)<|gd ((fx0 (0+x24.toNat) 9).ln.ble (fx0 (0+x24.toNat) 9).ln&&true)<|gd ((fx0 (0+x24.toNat) 10).ln.ble (fx0 (0+x24.toNat) 10).ln&&true)<|gd ((0+x20.toNat).blt nx0&&true&&true)<|gd ((0+x20.toNat).blt nx0&&true&&true)<|gd ((0+x20.toNat).blt nx0&&true&&true)<|gd ((0+x20.toNat).blt nx0&&true&&true)<|gd ((0+x20.toNat).blt nx0&&true&&true)<|gd ((0+x20.toNat).blt nx0&&true&&true)<|gd ((0+x20.toNat).blt nx0&&true&&true)<|gd ((0+x20.toNat).blt nx0&&true&&true)<|gd ((0+x20.toNat).blt nx0&&true&&true)<|gd ((0+x20.toNat).blt nx0&&true&&true)<|gd ((0+x20.toNat).blt nx0&&true&&true)<|K .normal (st_delR_1 l c (nx0) q14 (i64.wrap (x20+1)) (i64.wrap (x24+1))) else K .normal (st_delR_1 l c (nx0) q2 (x20) (i64.wrap (x24+1))) else gd (decide (0≤x20)&&(x20.toNat.blt nx0&&true))<|gd ((fx0 (0+x24.toNat) 4).ln.ble (fx0 (0+x24.toNat) 4).ln&&true)<|gd ((fx0 (0+x24.toNat) 9).ln.ble (fx0 (0+x24.toNat) 9).ln&&true)<|gd ((fx0 (0+x24.toNat) 10).ln.ble (fx0 (0+x24.toNat) 10).ln&&true)<|gd ((0+x20.toNat).blt nx0&&true&&true)<|gd ((0+x20.toNat).blt nx0&&true&&true)<|gd ((0+x20.toNat).blt nx0&&true&&true)<|gd ((0+x20.toNat).blt nx0&&true&&true)<|gd ((0+x20.toNat).blt nx0&&true&&true)<|gd ((0+x20.toNat).blt nx0&&true&&true)<|gd ((0+x20.toNat).blt nx0&&true&&true)<|gd ((0+x20.toNat).blt nx0&&true&&true)<|gd ((0+x20.toNat).blt nx0&&true&&true)<|gd ((0+x20.toNat).blt nx0&&true&&true)<|gd ((0+x20.toNat).blt nx0&&true&&true)<|K .normal (st_delR_1 l c (nx0) q14 (i64.wrap (x20+1)) (i64.wrap (x24+1))) else K (.exit 0) (ex_delR_1_1 l c nx0 fx0 x20 x24)):=by kernel_rfl
theorem post_delR_1_1 (l:List Rm) (c:Dc) (nx0:Nat) (fx0:Nat→Nat→T) (x20:Int) (x24:Int) (n:Nat):contAt prog tb38 kp_delR F_delR ts_delR [1,1,1,0,1,0] [] n (.exit 0) (ex_delR_1_1 l c nx0 fx0 x20 x24)=(gd (decide (0≤x20)&&(decide (x20≤(↑nx0:Int))&&decide ((↑nx0:Int)≤(↑nx0:Int))))<|gd ((0+x20.toNat+((↑nx0:Int).toNat - x20.toNat)).ble nx0)<|gd (decide (0≤x20)&&decide (x20≤(↑nx0:Int)))<|gd ((x20.toNat - 0).ble nx0&&true)<|gd ((x20.toNat - 0).ble (x20.toNat - 0)&&true)<|some ([(false,[.tr true (.arr (11) (x20.toNat - 0) (fillT 11 (0+x20.toNat) ((↑nx0:Int).toNat - x20.toNat) (fun x k=>zeroT prog 118 0 k) fx0))])],[(false,[]),(false,[])])):=by kernel_rfl
theorem pre_delR (l:List Rm) (c:Dc) (n:Nat):body prog tb38 kp_delR n F_delR [vT (eL 11 Rm.cs l),aDc i_Give1 c]=(gd ((0+l.length).ble l.length)<|entK ok_ixR ea_ixR (f_ixR) [(0,false,[C.tr false (T.arr 11 l.length (cutT 0 l.length (eL 11 Rm.cs l).fn))]),(0,false,[C.fn 130 [Pt.pim 1 (pimF [eL 2 Hd.cs c.1]),Pt.pim 1 (pimF [T.bool c.2]),Pt.pim 2 (pimF [T.int i64 c.h.1,T.int i64 c.h.2])]])] fun (r1:Int)=>bif r1 == -1 then gl l.length<|gl l.length<|some ([(false,[.tr true (.arr (11) (l.length) ((eL 11 Rm.cs l).fn))])],[(false,[]),(false,[])]) else loopAt prog tb38 kp_delR F_delR [1,1,1,0,1,0] n n (st_delR_1 l c (T.ln (eL 11 Rm.cs l)) (T.fn (eL 11 Rm.cs l)) r1 (i64.wrap (r1+1))) (contAt prog tb38 kp_delR F_delR ts_delR [1,1,1,0,1,0] [] n)):=by kernel_rfl
end Go.Mach.F
namespace Go.Mach.F
open Go Go.Mach Go.Proofs.Tryz
theorem setF_k {j k j' k':Nat} {u:T} {f:Nat→Nat→T} (h:Nat.beq k' k=false):setF j k u f j' k'=f j' k':=by
 unfold setF
 rw [h,Bool.and_false]
 rfl
theorem setF_j {j k j' k':Nat} {u:T} {f:Nat→Nat→T} (h:j'≠j):setF j k u f j' k'=f j' k':=by
 unfold setF
 rw [beqF h,Bool.false_and]
 rfl
theorem gv_c1 {R:Type} (c:Dc) (x:Rm) (A B:R):(bif decide (x.h∈c.met) then (bif c.whole then A else bif !(bif x.h.slot == c.h.slot then bif x.h.gen == c.h.gen then true else false else false) then A else B) else B)=bif gvK c x then A else B:=by
 have e:(bif x.h.slot == c.h.slot then bif x.h.gen == c.h.gen then true else false else false)=decide (x.h=c.h):=by
  rw [cond_bf,cond_tf,int_eq,int_eq,dec_and,hd_e1]
  exact decide_eq_decide.2 (by simp)
 rw [e]
 unfold gvK hasH
 cases decide (x.h∈c.met) <;> cases c.whole <;> cases decide (x.h=c.h) <;> rfl
theorem gv_c2 {R:Type} (c:Dc) (x:Rm) (A B:R):(bif decide (x.h∈c.met) then (bif c.whole then A else bif !!(bif x.h.slot == c.h.slot then bif x.h.gen == c.h.gen then true else false else false) then B else A) else B)=bif gvK c x then A else B:=by
 rw [← gv_c1 c x A B]
 cases (bif x.h.slot == c.h.slot then bif x.h.gen == c.h.gen then true else false else false) <;> rfl
theorem hix (l:List Hd) (h:Hd):@decide (0≤f_idHd (l,h)) (Int.decLe 0 (f_idHd (l,h)))=decide (h∈l):=ixH_has l h
theorem ixP_of {α:Type} (p:α→Bool) (l:List α):(∃ (i:Nat) (x:α),ixP p l=(i:Int)∧l[i]?=some x∧p x=true∧∀ j,j < i→∀ y,l[j]?=some y→p y=false)∨(ixP p l=-1∧∀ y,y∈l→p y=false):=by
 unfold ixP
 cases hf:(List.range l.length).find? (fun i=>(l[i]?.map p).getD false) with
 | some i =>
  obtain ⟨h1,h2,h3⟩:=List.find?_range_eq_some.1 hf
  have hx:=List.getElem?_eq_getElem (List.mem_range.1 h2)
  rw [hx] at h1
  refine .inl ⟨i,_,rfl,hx,h1,fun j hj y hy=>?_⟩
  have:=h3 j hj
  rw [hy] at this
  simpa using this
 | none =>
  refine .inr ⟨rfl,fun y hy=>?_⟩
  obtain ⟨j,hj,e⟩:=List.getElem_of_mem hy
  have:=List.find?_eq_none.1 hf j (List.mem_range.2 hj)
  rw [List.getElem?_eq_getElem hj,e] at this
  simpa using this
theorem body_ixR (l:List Rm) (c:Dc) (h0:ok_ixR (l,c)):body prog (tabS [(i_Give1,e_Give1)]) kp_ixR (l.length+1) F_ixR (ea_ixR (l,c))=some (erI 2 (f_ixR (l,c))):=by
 have hlm:=lm
 obtain ⟨hl,hm⟩:=h0
 dsimp only at hl hm
 have c0:∀ x:Rm,ok_idHd (c.met,x.h):=fun _=>hm
 unfold ea_ixR f_ixR
 dsimp only
 rw [pre_ixR,show st_ixR_1 l c 0=(fun i:Nat=>st_ixR_1 l c (i:Nat)) 0 from rfl,
  forExit l.length (fun i:Nat=>st_ixR_1 l c (i:Nat)) (ex_ixR_1_2 l c l.length) 0 (fun i=>(l[i]?.map (gvK c)).getD false) .ret (by simp) (fun i=>ex_ixR_1_1 l c i) (fun i K hi=>?_) (fun K=>?_) _ (Nat.le_refl _)]
 ·unfold ixP
  cases (List.range l.length).find? (fun i=>(l[i]?.map (gvK c)).getD false) with
  | some i=>exact post_ixR_1_1 l c i _
  | none=>exact post_ixR_1_2 l c l.length _
 ·have hx:=List.getElem?_eq_getElem hi
  obtain ⟨x,hxe⟩:∃ x,x=l[i]:=⟨_,rfl⟩
  rw [← hxe] at hx
  rw [round_ixR_1]
  simp (disch:=omega) only [rsx0,hi,atL_of hx,hx,Rm.cs,wrapS]
  rw [entK_of (dm_idHd (c0 x)) (iv_idHd (c0 x)),hix,gv_c1,Option.map_some,Option.getD_some]
 ·rw [round_ixR_1]
  simp only [lt_d,Nat.lt_irrefl,decide_false,cond_false]
theorem s_ixR:EntOk prog i_ixR e_ixR:=ent_ok ea_ixR_inj fun x hx =>
 body_sound (φ:=(tabS [(i_Give1,e_Give1)])) (tabS_cons s_Give1 tabS_nil) mixed (kp:=kp_ixR) (n:=x.1.length+1) func116 (c:=bodyOf F_ixR) (by kernel_rfl) (body_ixR x.1 x.2 hx) (name_ok (by kernel_rfl))
/-- A room is moved away; a room is laid. -/
def mvF (f:Nat→Nat→T) (i:Nat):Nat→Nat→T:=setF i 10 T.hole (setF i 9 T.hole (setF i 4 T.hole f))
def ptF (f:Nat→Nat→T) (i:Nat) (x:Rm):Nat→Nat→T:=setF i 10 (eL 1 rowI x.tags) (setF i 9 (eL 1 Sf.cs x.things) (setF i 8 (.int .i64 x.bump) (setF i 7 (.bool x.cur) (setF i 6 (.int .i64 x.chunks) (setF i 5 (.int .i64 x.ep) (setF i 4 (eL 2 Hd.cs x.kids) (setF i 3 (.int .i64 x.up.gen) (setF i 2 (.int .i64 x.up.slot) (setF i 1 (.int .i64 x.h.gen) (setF i 0 (.int .i64 x.h.slot) f))))))))))
theorem mvF_off {f:Nat→Nat→T} {j j' k:Nat} (h:j'≠j):mvF f j j' k=f j' k:=by
 unfold mvF
 rw [setF_j h,setF_j h,setF_j h]
theorem ptF_off {f:Nat→Nat→T} {i j' k:Nat} {x:Rm} (h:j'≠i):ptF f i x j' k=f j' k:=by
 unfold ptF
 simp only [setF_j h]
theorem setF_d2 {j k k':Nat} {u:T} {f:Nat→Nat→T}:setF j k u f j k'=bif Nat.beq k' k then u else f j k':=by
 unfold setF
 rw [Nat.beq_refl,Bool.true_and]
theorem ptF_at {f:Nat→Nat→T} {i k:Nat} {x:Rm} (h:k < 11):ptF f i x i k=(Rm.cs x).getD k .hole:=by
 unfold ptF
 simp only [setF_d2]
 rcases k with _ | _ | _ | _ | _ | _ | _ | _ | _ | _ | _ | k
 all_goals first | rfl | omega
/-- What DeleteFunc over rooms holds. -/
def rg (p:Rm→Bool) (l:List Rm) (b:Nat):Nat→Nat→Nat→T
 | 0=>atL Rm.cs l
 | t+1=>match l[b+t]? with
  | some x=>bif p x then ptF (mvF (rg p l b t) (b+t)) (kpF p l (b+t)).length x else mvF (rg p l b t) (b+t)
  | none=>rg p l b t
theorem rg_next (p:Rm→Bool) {l:List Rm} {b t:Nat} {x:Rm} (hx:l[b+t]?=some x):rg p l b (t+1)=bif p x then ptF (mvF (rg p l b t) (b+t)) (kpF p l (b+t)).length x else mvF (rg p l b t) (b+t):=by
 simp only [rg,hx]
theorem rg_inv (p:Rm→Bool) (l:List Rm) (b:Nat) (hb:(kpF p l b).length < b) (h0:kpF p l b=l.take (kpF p l b).length):∀ t,b+t≤l.length→(kpF p l (b+t)).length < b+t∧(∀ j k,b+t≤j→rg p l b t j k=atL Rm.cs l j k)∧(∀ i k,i < (kpF p l (b+t)).length→k < 11→rg p l b t i k=atL Rm.cs (kpF p l (b+t)) i k)
 | 0,_=>by
  refine ⟨hb,fun _ _ _=>rfl,fun i k hi _=>?_⟩
  show atL Rm.cs l i k=atL Rm.cs (kpF p l b) i k
  have hi:i < (kpF p l b).length:=hi
  unfold atL
  rw [h0,List.getElem?_take,if_pos hi]
 | t+1,ht=>by
  obtain ⟨h1,h2,h3⟩:=rg_inv p l b hb h0 t (by omega)
  have hj:b+t < l.length:=by omega
  have hx:=List.getElem?_eq_getElem hj
  obtain ⟨x,hxe⟩:∃ x,x=l[b+t]:=⟨_,rfl⟩
  rw [← hxe] at hx
  rw [rg_next p hx,show b+(t+1)=b+t+1 from rfl,kpF_next p hx]
  cases p x with
  | false =>
   simp only [cond_false]
   exact ⟨by omega,fun j k hjk=>by rw [mvF_off (by omega)];exact h2 j k (by omega),fun i k hi hk=>by rw [mvF_off (by omega)];exact h3 i k hi hk⟩
  | true =>
   simp only [cond_true,List.length_append,List.length_singleton]
   refine ⟨by omega,fun j k hjk=>by rw [ptF_off (by omega),mvF_off (by omega)];exact h2 j k (by omega),fun i k hi hk=>?_⟩
   by_cases e:i=(kpF p l (b+t)).length
   ·subst e
    rw [ptF_at hk]
    have:(kpF p l (b+t) ++ [x])[(kpF p l (b+t)).length]?=some x:=by simp
    rw [atL_of this]
   ·rw [ptF_off e,mvF_off (by omega),h3 i k (by omega) hk]
    unfold atL
    rw [List.getElem?_append_left (by omega)]
theorem body_delR (l:List Rm) (c:Dc) (h0:ok_delR (l,c)):∃ g,body prog tb38 kp_delR (l.length+1) F_delR (ea_delR (l,c))=some ([oT (.arr 11 (f_delR (l,c)).length g)],[nul,nul])∧∀ j k,j < (f_delR (l,c)).length→k < 11→g j k=atL Rm.cs (f_delR (l,c)) j k:=by
 have hlm:=lm
 obtain ⟨hl,hm⟩:=h0
 dsimp only at hl hm
 have c0:ok_ixR (l,c):=⟨hl,hm⟩
 have c1:∀ x:Rm,ok_idHd (c.met,x.h):=fun _=>hm
 obtain ⟨p,hp⟩:∃ p:Rm→Bool,p=fun y=>!gvK c y:=⟨_,rfl⟩
 have hf:f_delR (l,c)=kpF p l l.length:=by
  unfold f_delR kpF
  rw [List.take_length,hp]
 unfold ea_delR
 dsimp only
 rw [pre_delR]
 simp only [rsx0,ble_d,Nat.le_refl,cut_all,List.length_cons,List.length_nil,Nat.reduceAdd]
 rw [entK_of (dm_ixR c0) (iv_ixR c0)]
 simp only [d_ixR,int_eq]
 rcases ixP_of (gvK c) l with ⟨i0,x0,e,hi0,hp0,hno⟩ | ⟨e,hn⟩
 ·have hne:¬ (i0:Int)=-1:=by omega
  have hlt:=(List.getElem?_eq_some_iff.1 hi0).1
  have hpre:kpF p l i0=l.take i0:=kpF_pre p fun j hj x hx=>by
   rw [hp]
   simp [hno j hj x hx]
  have hph:p x0=false:=by rw [hp];simp [hp0]
  have hF1:kpF p l (i0+1)=l.take i0:=by rw [kpF_next p hi0,hph,cond_false,hpre]
  have hL1:(kpF p l (i0+1)).length=i0:=by rw [hF1,List.length_take];omega
  have hinv:=rg_inv p l (i0+1) (by omega) (by rw [hL1,hF1])
  rw [e]
  simp (disch:=omega) only [hne,decide_false,cond_false,wrapS]
  have hst:st_delR_1 l c l.length (atL Rm.cs l) (i0:Int) ((i0+1:Nat):Int)=(fun t:Nat=>st_delR_1 l c l.length (rg p l (i0+1) t) ((kpF p l (i0+1+t)).length:Int) ((i0+1+t:Nat):Int)) 0:=by
   simp only [Nat.add_zero,hL1,rg]
  rw [hst,forLoop (l.length - (i0+1)) (fun t:Nat=>st_delR_1 l c l.length (rg p l (i0+1) t) ((kpF p l (i0+1+t)).length:Int) ((i0+1+t:Nat):Int)) (ex_delR_1_1 l c l.length (rg p l (i0+1) (l.length - (i0+1))) ((kpF p l l.length).length:Int) (l.length:Int)) 0 (fun t K ht=>?_) (fun K=>?_) _ (by omega)]
  ·have hle:=kpF_len p l (Nat.le_refl l.length)
   have q1:((kpF p l l.length).length:Int)≤(l.length:Int):=by omega
   have q2:(kpF p l l.length).length+(l.length - (kpF p l l.length).length)≤l.length:=by omega
   rw [post_delR_1_1]
   simp only [rsx0,q1,q2,ble_d,Nat.le_refl,Int.le_refl,Nat.sub_zero,hle]
   rw [hf]
   refine ⟨_,rfl,fun j k hj hk=>?_⟩
   unfold fillT
   rw [ble_d,decide_eq_false (by omega:¬ (kpF p l l.length).length≤j)]
   simp only [Bool.false_and,Bool.and_false,cond_false]
   have h3:=(hinv (l.length - (i0+1)) (by omega)).2.2 j k
   rw [show i0+1+(l.length - (i0+1))=l.length from by omega] at h3
   exact h3 hj hk
  ·have hjt:i0+1+t < l.length:=by omega
   have hx:=List.getElem?_eq_getElem hjt
   obtain ⟨x,hxe⟩:∃ x,x=l[i0+1+t]:=⟨_,rfl⟩
   rw [← hxe] at hx
   obtain ⟨h1,h2,_⟩:=hinv t (by omega)
   have hA:∀ k,rg p l (i0+1) t (i0+1+t) k=(Rm.cs x).getD k .hole:=fun k=>by rw [h2 _ k (Nat.le_refl _),atL_of hx]
   have q0:(kpF p l (i0+1+t)).length < l.length:=by omega
   have w1:IntKind.i64.wrap (((i0+1+t:Nat):Int)+1)=((i0+1+(t+1):Nat):Int):=wrapS (by omega)
   have w2:IntKind.i64.wrap (((kpF p l (i0+1+t)).length:Int)+1)=(((kpF p l (i0+1+t)).length+1:Nat):Int):=wrapS (by omega)
   have hpx:p x=!gvK c x:=by rw [hp]
   rw [rg_next p hx,show i0+1+(t+1)=i0+1+t+1 from rfl,kpF_next p hx,hpx]
   rw [round_delR_1]
   simp only [rsx0,hjt,q0,ble_d,Nat.le_refl,setF_k (rfl:Nat.beq 9 4=false),setF_k (rfl:Nat.beq 10 9=false),setF_k (rfl:Nat.beq 10 4=false),hA,Rm.cs,w1,w2]
   rw [entK_of (dm_idHd (c1 x)) (iv_idHd (c1 x)),hix,gv_c2]
   cases gvK c x with
   | true=>rfl
   | false =>
    simp only [Bool.not_false,cond_true,cond_false,List.length_append,List.length_singleton]
    unfold ptF mvF
    rfl
  ·have e1:i0+1+(l.length - (i0+1))=l.length:=by omega
   rw [round_delR_1]
   simp only [e1,lt_d,Nat.lt_irrefl,decide_false,cond_false]
 ·have hff:f_delR (l,c)=l:=by
   unfold f_delR
   refine List.filter_eq_self.2 fun x hx=>?_
   simp [hn x hx]
  rw [e,hff]
  simp only [decide_true,cond_true]
  exact ⟨_,rfl,fun _ _ _ _=>rfl⟩
theorem s_delR:EntOk prog i_delR e_delR:=ent_ok ea_delR_inj fun x hx=>by
 obtain ⟨g,hb,hg⟩:=body_delR x.1 x.2 hx
 exact Sound.cut1 (body_sound (φ:=tb38) (tabS_cons s_ixR (tabS_cons s_Give1 tabS_nil)) mixed (kp:=kp_delR) (n:=x.1.length+1) func129 (c:=bodyOf F_delR) (by kernel_rfl) hb (name_ok (by kernel_rfl))) hg
end Go.Mach.F
namespace Go.Mach.F
open Go Go.Mach Go.Proofs.Tryz Go.IntKind
--=set_option maxRecDepth 100000
/-- A room behind a give. -/
def givR (h:Hd) (w:Bool) (r:Rm):Rm:=bif decide (r.h=h) then ⟨r.h,r.up,[],i64.wrap (r.ep+1),0,false,0,[],[]⟩ else bif w then { r with kids:=r.kids.filter (fun y=>!decide (y=h)) } else r
def givN (m:Ml):Nat:=(allK m.rooms).length+2
def givM (m:Ml) (h:Hd) (w:Bool):Ml × Int:=bif decide ((rsv m h).2=0) then (⟨m.c,(m.rooms.filter (fun r=>!gvK ⟨(gatH (givN m) m.rooms h ([],[])).1,w,h⟩ r)).map (givR h w),m.log ++ (gatH (givN m) m.rooms h ([],[])).2⟩,0) else (m,(rsv m h).2)
def ok_iEagerGive (x:Ml × Hd × Bool):Prop:=ok_RmS x.1.rooms∧ok_LI x.1.log∧(allK x.1.rooms).length < LM∧cntL (fun r=>r.tags.length) x.1.rooms≤LM
def ea_iEagerGive (x:Ml × Hd × Bool):List Arg:=[aR x.1.cs,aR x.2.1.cs,aB x.2.2]
def f_iEagerGive (x:Ml × Hd × Bool):Ml × Int:=givM x.1 x.2.1 x.2.2
noncomputable def e_iEagerGive:Ent:=ent [] ok_iEagerGive ea_iEagerGive (fun (x:Ml × Int)=>([oR x.1.cs,oT (.int .i64 x.2)],[nul,nul,nul])) f_iEagerGive
theorem ea_iEagerGive_inj (x y:Ml × Hd × Bool) (h:ea_iEagerGive x=ea_iEagerGive y):x=y:=by
 obtain ⟨m1,h1,w1⟩:=x
 obtain ⟨m2,h2,w2⟩:=y
 simp only [ea_iEagerGive,List.cons.injEq,and_true,true_and] at h
 obtain ⟨e0,e1,e2⟩:=h
 obtain rfl:=Ml.cs_ext (aR_inj e0)
 obtain rfl:=Hd.cs_ext (aR_inj e1)
 obtain rfl:=aB_inj e2
 rfl
theorem dm_iEagerGive {m:Ml} {h:Hd} {w:Bool} (h0:ok_iEagerGive (m,h,w)):dom ok_iEagerGive ea_iEagerGive [(wMl m),(wHd h),(0,false,[C.tr false (T.bool w)])]=true:=dom_ea (ea:=ea_iEagerGive) (x:=(m,h,w)) h0
theorem iv_iEagerGive {m:Ml} {h:Hd} {w:Bool} (h0:ok_iEagerGive (m,h,w)):inv ok_iEagerGive ea_iEagerGive [(wMl m),(wHd h),(0,false,[C.tr false (T.bool w)])]=(m,h,w):=inv_ea ea_iEagerGive_inj (x:=(m,h,w)) h0
theorem d_iEagerGive (m:Ml) (h:Hd) (w:Bool):f_iEagerGive (m,h,w)=givM m h w:=rfl
def ok_sEagerGive (x:Ml × Hd × Bool):Prop:=ok_RmS x.1.rooms∧ok_LI x.1.log∧(allK x.1.rooms).length < LM∧cntL (fun r=>r.tags.length) x.1.rooms≤LM
def ea_sEagerGive (x:Ml × Hd × Bool):List Arg:=[aR x.1.cs,aR x.2.1.cs,aB x.2.2]
def f_sEagerGive (x:Ml × Hd × Bool):Ml × Int:=givM x.1 x.2.1 x.2.2
noncomputable def e_sEagerGive:Ent:=ent [] ok_sEagerGive ea_sEagerGive (fun (x:Ml × Int)=>([oR x.1.cs,oT (.int .i64 x.2)],[nul,nul,nul])) f_sEagerGive
theorem ea_sEagerGive_inj (x y:Ml × Hd × Bool) (h:ea_sEagerGive x=ea_sEagerGive y):x=y:=by
 obtain ⟨m1,h1,w1⟩:=x
 obtain ⟨m2,h2,w2⟩:=y
 simp only [ea_sEagerGive,List.cons.injEq,and_true,true_and] at h
 obtain ⟨e0,e1,e2⟩:=h
 obtain rfl:=Ml.cs_ext (aR_inj e0)
 obtain rfl:=Hd.cs_ext (aR_inj e1)
 obtain rfl:=aB_inj e2
 rfl
theorem dm_sEagerGive {m:Ml} {h:Hd} {w:Bool} (h0:ok_sEagerGive (m,h,w)):dom ok_sEagerGive ea_sEagerGive [(wMl m),(wHd h),(0,false,[C.tr false (T.bool w)])]=true:=dom_ea (ea:=ea_sEagerGive) (x:=(m,h,w)) h0
theorem iv_sEagerGive {m:Ml} {h:Hd} {w:Bool} (h0:ok_sEagerGive (m,h,w)):inv ok_sEagerGive ea_sEagerGive [(wMl m),(wHd h),(0,false,[C.tr false (T.bool w)])]=(m,h,w):=inv_ea ea_sEagerGive_inj (x:=(m,h,w)) h0
theorem d_sEagerGive (m:Ml) (h:Hd) (w:Bool):f_sEagerGive (m,h,w)=givM m h w:=rfl
def i_iEagerGive:Nat:=64
noncomputable abbrev F_iEagerGive:Func:=f64
def kp_iEagerGive:List (Nat × List Nat):=[(0,[12,13,16,17,20,21,24,25,32,33,64,100,316]),(1,[12,13,16,17,20,21,24,25,32,33,64,100,316]),(2,[12,13,16,17,20,21,24,25,32,33,40,64,100,316]),(3,[12,13,16,17,20,21,24,25,32,33,40,64,96,100,316]),(4,[24,25,28,32,33,64,100,316]),(5,[16,17,20,21,24,25,32,33,44,45,48,64,100,108,120,124,316]),(6,[16,17,20,21,24,25,32,33,48,64,100,316]),(7,[16,17,20,21,24,25,32,33,48,64,100,152,156,160,164,316]),(8,[16,17,20,21,24,25,32,33,48,64,100,152,156,160,164,168,316]),(9,[16,17,20,21,24,25,32,33,48,52,56,57,64,100,152,156,160,164,176,180,316]),(10,[16,17,20,21,24,25,32,33,48,52,56,57,64,100,152,156,160,164,176,180,184,316]),(11,[16,17,20,21,24,25,32,33,48,64,100,152,156,160,164,316]),(12,[16,17,20,21,24,25,32,33,48,52,56,57,64,100,152,156,160,164,176,180,248,316]),(13,[16,17,20,21,24,25,32,33,48,64,100,152,156,160,164,316]),(14,[16,17,20,21,24,25,32,33,48,64,100,152,156,160,164,316]),(15,[24,25,32,33,64,100,316]),(16,[24,25,28,32,33,64,100,316])]
def ts_iEagerGive:List Nat:=[0,0,0]
def st_iEagerGive_1 (k:Nat) (m:Ml) (h:Hd) (w:Bool) (r1:Ml) (r3:List Hd × List Int) (r4:List Rm) (nx33_6:Nat) (fx33_6:Nat→Nat→T) (x164:Int):St:=[(16,⟨z0,[(false,[(C.pt (Pt.ptr 17 0 [] 2 0 0))])]⟩),(17,⟨z0,[(true,[.tr true (T.int i64 h.1),.tr true (T.int i64 h.2)])]⟩),(20,⟨z0,[(false,[(C.pt (Pt.ptr 21 0 [] 1 0 0))])]⟩),(21,⟨z0,[(false,[.tr true (T.bool w)])]⟩),(24,⟨z0,[(false,[(C.pt (Pt.ptr 25 0 [] 8 0 0))])]⟩),(25,⟨z0,[(true,[.tr true (T.int i64 0),.tr true (T.int i64 0),.tr true (T.int i64 0),.tr true (T.int i64 0),.tr true (T.int i64 0),.tr true (T.int i64 0),.tr true (.arr (11) (0) (fun x x_1=>T.hole)),.tr true (.arr (1) (0) (fun x x_1=>T.hole))])]⟩),(32,⟨z0,[(false,[(C.pt (Pt.ptr 33 0 [] 8 0 0))])]⟩),(33,⟨z0,[(true,[.tr true (T.int i64 r1.c.1),.tr true (T.int i64 r1.c.2),.tr true (T.int i64 r1.c.3),.tr true (T.int i64 r1.c.4),.tr true (T.int i64 r1.c.5),.tr true (T.int i64 r1.c.6),.tr true (.arr (11) (nx33_6) (fx33_6)),.tr true (.arr (1) (r1.3.length) ((eL 1 rowI r1.3).fn))])]⟩),(48,⟨z0,[(false,[.tr true (.arr (1) (r3.2.length) (atL rowI r3.2))])]⟩),(64,⟨z0,[(true,[.tr true (T.int i64 r1.c.1),.tr true (T.int i64 r1.c.2),.tr true (T.int i64 r1.c.3),.tr true (T.int i64 r1.c.4),.tr true (T.int i64 r1.c.5),.tr true (T.int i64 r1.c.6),.tr true (T.hole),.tr true (T.hole)])]⟩),(152,⟨z0,[(false,[(C.pt (Pt.ptr 33 0 [] 8 0 6))])]⟩),(156,⟨z0,[(false,[(C.ref 33 0 [0,6] 11 0 r4.length)])]⟩),(160,⟨z0,[(false,[.tr true (T.int i64 (↑r4.length:Int))])]⟩),(164,⟨z0,[(false,[.tr true (T.int i64 x164)])]⟩)]
def ex_iEagerGive_1_1 (k:Nat) (m:Ml) (h:Hd) (w:Bool) (r1:Ml) (r3:List Hd × List Int) (r4:List Rm) (nx33_6:Nat) (fx33_6:Nat→Nat→T) (x164:Int):St:=[(16,⟨z0,[(false,[(C.pt (Pt.ptr 17 0 [] 2 0 0))])]⟩),(17,⟨z0,[(true,[.tr true (T.int i64 h.1),.tr true (T.int i64 h.2)])]⟩),(20,⟨z0,[(false,[(C.pt (Pt.ptr 21 0 [] 1 0 0))])]⟩),(21,⟨z0,[(false,[.tr true (T.bool w)])]⟩),(24,⟨z0,[(false,[(C.pt (Pt.ptr 25 0 [] 8 0 0))])]⟩),(25,⟨z0,[(true,[.tr true (T.int i64 0),.tr true (T.int i64 0),.tr true (T.int i64 0),.tr true (T.int i64 0),.tr true (T.int i64 0),.tr true (T.int i64 0),.tr true (.arr (11) (0) (fun x x_1=>T.hole)),.tr true (.arr (1) (0) (fun x x_1=>T.hole))])]⟩),(32,⟨z0,[(false,[(C.pt (Pt.ptr 33 0 [] 8 0 0))])]⟩),(33,⟨z0,[(true,[.tr true (T.int i64 r1.c.1),.tr true (T.int i64 r1.c.2),.tr true (T.int i64 r1.c.3),.tr true (T.int i64 r1.c.4),.tr true (T.int i64 r1.c.5),.tr true (T.int i64 r1.c.6),.tr true (.arr (11) (nx33_6) (fx33_6)),.tr true (.arr (1) (r1.3.length) ((eL 1 rowI r1.3).fn))])]⟩),(48,⟨z0,[(false,[.tr true (.arr (1) (r3.2.length) (atL rowI r3.2))])]⟩),(64,⟨z0,[(true,[.tr true (T.int i64 r1.c.1),.tr true (T.int i64 r1.c.2),.tr true (T.int i64 r1.c.3),.tr true (T.int i64 r1.c.4),.tr true (T.int i64 r1.c.5),.tr true (T.int i64 r1.c.6),.tr true (T.hole),.tr true (T.hole)])]⟩),(152,⟨z0,[(false,[(C.pt (Pt.ptr 33 0 [] 8 0 6))])]⟩),(156,⟨z0,[(false,[(C.ref 33 0 [0,6] 11 0 r4.length)])]⟩),(160,⟨z0,[(false,[.tr true (T.int i64 (↑r4.length:Int))])]⟩),(164,⟨z0,[(false,[.tr true (T.int i64 x164)])]⟩),(168,⟨z0,[]⟩)]
theorem round_iEagerGive_1 (k:Nat) (m:Ml) (h:Hd) (w:Bool) (r1:Ml) (r3:List Hd × List Int) (r4:List Rm) (nx33_6:Nat) (fx33_6:Nat→Nat→T) (x164:Int) (n:Nat) (K:Ex→St→Res):roundAt prog (tabS [(i_iModel,e_iModel),(i_iRsv,e_iRsv),(i_delR,e_delR),(i_delH,e_delH),(i_gat,e_gat k)]) kp_iEagerGive F_iEagerGive (ons 5 [0,1,0]) n (st_iEagerGive_1 k m h w r1 r3 r4 nx33_6 fx33_6 x164) K=(bif decide (x164 < (↑r4.length:Int)) then gd (decide (0≤x164)&&(x164.toNat.blt r4.length&&true))<|gd ((0+x164.toNat).blt nx33_6&&true&&(T.isI i64 (fx33_6 (0+x164.toNat) 0)&&T.isI i64 (fx33_6 (0+x164.toNat) 1)&&T.isI i64 (fx33_6 (0+x164.toNat) 2)&&T.isI i64 (fx33_6 (0+x164.toNat) 3)&&((fx33_6 (0+x164.toNat) 4).isArr&&(fx33_6 (0+x164.toNat) 4).wd.beq 2)&&T.isI i64 (fx33_6 (0+x164.toNat) 5)&&T.isI i64 (fx33_6 (0+x164.toNat) 6)&&(fx33_6 (0+x164.toNat) 7).isB&&T.isI i64 (fx33_6 (0+x164.toNat) 8)&&((fx33_6 (0+x164.toNat) 9).isArr&&(fx33_6 (0+x164.toNat) 9).wd.beq 1)&&((fx33_6 (0+x164.toNat) 10).isArr&&(fx33_6 (0+x164.toNat) 10).wd.beq 1)))<|bif bif (fx33_6 (0+x164.toNat) 0).toI == h.1 then bif (fx33_6 (0+x164.toNat) 1).toI == h.2 then true else false else false then gd (decide (0≤x164)&&(x164.toNat.blt nx33_6&&true))<|gd ((0+x164.toNat).blt nx33_6&&true&&true)<|gd ((0+x164.toNat).blt nx33_6&&true&&true)<|gd ((0+x164.toNat).blt nx33_6&&true&&true)<|gd ((0+x164.toNat).blt nx33_6&&true&&true)<|gd ((0+x164.toNat).blt nx33_6&&true&&true)<|gd ((0+x164.toNat).blt nx33_6&&true&&true)<|gd ((0+x164.toNat).blt nx33_6&&true&&true)<|gd ((0+x164.toNat).blt nx33_6&&true&&true)<|gd ((0+x164.toNat).blt nx33_6&&true&&true)<|gd ((0+x164.toNat).blt nx33_6&&true&&true)<|gd ((0+x164.toNat).blt nx33_6&&true&&true)<|K .normal (st_iEagerGive_1 k m h w r1 r3 r4 (nx33_6) (setF (0+x164.toNat) (3+1+1+1+1+1+1+1) (T.arr 1 0 fun x x_1=>T.hole) (setF (0+x164.toNat) (3+1+1+1+1+1+1) (T.arr 1 0 fun x x_1=>T.hole) (setF (0+x164.toNat) (3+1+1+1+1+1) (T.int i64 0) (setF (0+x164.toNat) (3+1+1+1+1) (T.bool false) (setF (0+x164.toNat) (3+1+1+1) (T.int i64 0) (setF (0+x164.toNat) (3+1+1) (T.int i64 (i64.wrap ((fx33_6 (0+x164.toNat) 5).toI+1))) (setF (0+x164.toNat) (3+1) (T.arr 2 0 fun x x_1=>T.hole) (setF (0+x164.toNat) 3 (T.int i64 (fx33_6 (0+x164.toNat) 3).toI) (setF (0+x164.toNat) 2 (T.int i64 (fx33_6 (0+x164.toNat) 2).toI) (setF (0+x164.toNat) 1 (T.int i64 h.2) (setF (0+x164.toNat) 0 (T.int i64 h.1) fx33_6))))))))))) (i64.wrap (x164+1))) else bif w then gd ((0+x164.toNat).blt nx33_6&&true&&true&&((T.arr 11 nx33_6 fx33_6).get [0+x164.toNat,4]).isArr)<|gd ((fx33_6 (0+x164.toNat) 4).ln.ble ((T.arr 11 nx33_6 fx33_6).get [0+x164.toNat,4]).ln&&Nat.beq 2 ((T.arr 11 nx33_6 fx33_6).get [0+x164.toNat,4]).wd)<|entK ok_delH ea_delH (f_delH) [(3,false,[C.tr true (T.arr 2 (fx33_6 (0+x164.toNat) 4).ln ((T.arr 11 nx33_6 fx33_6).get [0+x164.toNat,4]).fn)]),(0,false,[C.fn 133 [Pt.pim 2 (pimF [T.int i64 h.1,T.int i64 h.2])]])] fun (r5:List Hd)=>gd (decide (0≤x164)&&(x164.toNat.blt nx33_6&&true))<|gl r5.length<|gd ((0+x164.toNat).blt nx33_6&&true&&true)<|K .normal (st_iEagerGive_1 k m h w r1 r3 r4 (nx33_6) (setF (0+x164.toNat) 4 (T.arr 2 r5.length (eL 2 Hd.cs r5).fn) (setF (0+x164.toNat) 4 T.hole fx33_6)) (i64.wrap (x164+1))) else K .normal (st_iEagerGive_1 k m h w r1 r3 r4 (nx33_6) (fx33_6) (i64.wrap (x164+1))) else K (.exit 0) (ex_iEagerGive_1_1 k m h w r1 r3 r4 nx33_6 fx33_6 x164)):=by kernel_rfl
theorem post_iEagerGive_1_1 (k:Nat) (m:Ml) (h:Hd) (w:Bool) (r1:Ml) (r3:List Hd × List Int) (r4:List Rm) (nx33_6:Nat) (fx33_6:Nat→Nat→T) (x164:Int) (n:Nat):contAt prog (tabS [(i_iModel,e_iModel),(i_iRsv,e_iRsv),(i_delR,e_delR),(i_delH,e_delH),(i_gat,e_gat k)]) kp_iEagerGive F_iEagerGive ts_iEagerGive (ons 5 [0,1,0]) [] n (.exit 0) (ex_iEagerGive_1_1 k m h w r1 r3 r4 nx33_6 fx33_6 x164)=(gl r1.3.length<|gd ((0+r3.2.length).ble r3.2.length)<|gd (((r1.3.length+r3.2.length) * 8).ble 70368744177664&&(r1.3.length+r3.2.length).ble 70368744177664)<|gd ((r1.3.length+r3.2.length).ble (r1.3.length+r3.2.length)&&true)<|gl nx33_6<|gd ((r1.3.length+r3.2.length).ble (r1.3.length+r3.2.length)&&true)<|gl nx33_6<|gd ((r1.3.length+r3.2.length).ble (r1.3.length+r3.2.length)&&true)<|some ([(true,[.tr true (T.int i64 r1.c.1),.tr true (T.int i64 r1.c.2),.tr true (T.int i64 r1.c.3),.tr true (T.int i64 r1.c.4),.tr true (T.int i64 r1.c.5),.tr true (T.int i64 r1.c.6),.tr true (.arr (11) (nx33_6) (fx33_6)),.tr true (.arr (1) (r1.3.length+r3.2.length) (appF r1.3.length (eL 1 rowI r1.3).fn (plainF (cutT 0 r3.2.length (atL rowI r3.2)))))]),(false,[.tr true (T.int i64 0)])],[(false,[]),(false,[]),(false,[])])):=by kernel_rfl
theorem pre_iEagerGive (k:Nat) (m:Ml) (h:Hd) (w:Bool) (n:Nat):body prog (tabS [(i_iModel,e_iModel),(i_iRsv,e_iRsv),(i_delR,e_delR),(i_delH,e_delH),(i_gat,e_gat k)]) kp_iEagerGive n F_iEagerGive [aR m.cs,aR h.cs,aB w]=(entK ok_iModel ea_iModel (f_iModel) [(wMl m)] fun (r1:Ml)=>gl r1.2.length<|gl r1.3.length<|entK ok_iRsv ea_iRsv (f_iRsv) [(wMl m),(wHd h)] fun (r2:Int × Int)=>bif r2.2 != 0 then gl r1.2.length<|gl r1.3.length<|gl r1.2.length<|gl r1.3.length<|some ([(oR (Ml.cs r1)),(false,[.tr true (T.int i64 r2.2)])],[(false,[]),(false,[]),(false,[])]) else entK (ok_gat k) ea_gat (f_gat k) [(wMl m),(wHd h),(3,false,[C.tr true (T.arr 2 0 fun x x_1=>T.hole)]),(3,false,[C.tr true (T.arr 1 0 fun x x_1=>T.hole)])] fun (r3:List Hd × List Int)=>gl r3.1.length<|gl r3.2.length<|gl r1.2.length<|entK ok_delR ea_delR (f_delR) [(3,false,[C.tr true (T.arr 11 r1.2.length (eL 11 Rm.cs r1.2).fn)]),(0,false,[C.fn 130 [Pt.pim 1 (pimF [T.arr 2 r3.1.length (eL 2 Hd.cs r3.1).fn]),Pt.pim 1 (pimF [T.bool w]),Pt.pim 2 (pimF [T.int i64 h.1,T.int i64 h.2])]])] fun (r4:List Rm)=>gl r4.length<|loopAt prog (tabS [(i_iModel,e_iModel),(i_iRsv,e_iRsv),(i_delR,e_delR),(i_delH,e_delH),(i_gat,e_gat k)]) kp_iEagerGive F_iEagerGive (ons 5 [0,1,0]) n n (st_iEagerGive_1 k m h w r1 r3 r4 (r4.length) ((eL 11 Rm.cs r4).fn) (0)) (contAt prog (tabS [(i_iModel,e_iModel),(i_iRsv,e_iRsv),(i_delR,e_delR),(i_delH,e_delH),(i_gat,e_gat k)]) kp_iEagerGive F_iEagerGive ts_iEagerGive (ons 5 [0,1,0]) [] n)):=by kernel_rfl
def i_sEagerGive:Nat:=49
noncomputable abbrev F_sEagerGive:Func:=f49
def kp_sEagerGive:List (Nat × List Nat):=[(0,[8,12,13,16,17,24,25,32,33,76,112,440]),(1,[8,12,13,16,17,24,25,32,33,76,112,440]),(2,[8,12,13,16,17,24,25,32,33,40,76,112,440]),(3,[8,12,13,16,17,24,25,32,33,40,76,108,112,440]),(4,[24,25,28,32,33,76,112,440]),(5,[8,16,17,24,25,32,33,44,48,76,112,440]),(6,[8,16,17,24,25,32,33,44,48,52,76,112,440]),(7,[8,16,17,24,25,32,33,44,48,52,56,76,112,440]),(8,[8,16,17,24,25,32,33,44,48,52,56,76,112,168,224,228,240,248,260,264,440]),(9,[8,16,17,24,25,32,33,44,48,52,56,76,112,440]),(10,[8,16,17,24,25,32,33,44,48,52,56,60,61,76,112,180,184,188,192,196,224,228,240,248,260,264,440]),(11,[8,16,17,24,25,32,33,44,48,52,56,60,61,76,112,180,184,188,192,196,200,240,248,260,264,440]),(12,[8,16,17,24,25,32,33,44,48,52,56,60,61,76,112,180,184,188,192,196,240,248,260,264,440]),(13,[8,16,17,24,25,32,33,44,48,52,56,60,61,76,112,180,184,188,192,196,240,248,260,264,268,440]),(14,[8,16,17,24,25,32,33,44,48,52,56,60,61,76,112,180,184,188,192,196,240,248,260,264,288,440]),(15,[8,16,17,24,25,32,33,44,48,52,56,60,61,64,76,112,180,184,188,192,196,240,248,260,264,440]),(16,[8,16,17,24,25,32,33,44,48,52,56,60,61,64,68,76,112,180,184,188,192,196,240,248,260,264,440]),(17,[8,16,17,24,25,32,33,44,48,52,56,60,61,64,68,76,112,180,184,188,192,196,240,248,260,264,316,440]),(18,[8,16,17,24,25,32,33,44,48,52,56,60,61,64,68,76,112,180,184,188,192,196,240,248,260,264,440]),(19,[8,16,17,24,25,32,33,44,48,52,56,60,61,64,68,76,112,180,184,188,192,196,240,248,260,264,352,440]),(20,[8,16,17,24,25,32,33,44,48,52,56,60,61,64,68,76,112,180,184,188,192,196,240,248,260,264,440]),(21,[8,16,17,24,25,32,33,44,48,52,56,60,61,76,112,180,184,188,192,196,240,248,260,264,440]),(22,[8,16,17,24,25,32,33,44,48,52,56,76,112,440]),(23,[24,25,32,33,44,76,112,440]),(24,[24,25,32,33,76,112,440]),(25,[24,25,28,32,33,76,112,440])]
def ts_sEagerGive:List Nat:=[0,0,0]
def st_sEagerGive_1 (k:Nat) (m:Ml) (h:Hd) (w:Bool) (r1:Ml) (r3:List Int × List Hd) (nx33_6:Nat) (fx33_6:Nat→Nat→T) (nx52:Nat) (fx52:Nat→Nat→T) (x56:Int):St:=[(8,⟨z0,[(false,[.tr true (T.bool w)])]⟩),(16,⟨z0,[(false,[(C.pt (Pt.ptr 17 0 [] 2 0 0))])]⟩),(17,⟨z0,[(true,[.tr true (T.int i64 h.1),.tr true (T.int i64 h.2)])]⟩),(24,⟨z0,[(false,[(C.pt (Pt.ptr 25 0 [] 8 0 0))])]⟩),(25,⟨z0,[(true,[.tr true (T.int i64 0),.tr true (T.int i64 0),.tr true (T.int i64 0),.tr true (T.int i64 0),.tr true (T.int i64 0),.tr true (T.int i64 0),.tr true (.arr (11) (0) (fun x x_1=>T.hole)),.tr true (.arr (1) (0) (fun x x_1=>T.hole))])]⟩),(32,⟨z0,[(false,[(C.pt (Pt.ptr 33 0 [] 8 0 0))])]⟩),(33,⟨z0,[(true,[.tr true (T.int i64 r1.c.1),.tr true (T.int i64 r1.c.2),.tr true (T.int i64 r1.c.3),.tr true (T.int i64 r1.c.4),.tr true (T.int i64 r1.c.5),.tr true (T.int i64 r1.c.6),.tr true (.arr (11) (nx33_6) (fx33_6)),.tr true (.arr (1) (r1.3.length) ((eL 1 rowI r1.3).fn))])]⟩),(44,⟨z0,[(false,[.tr true (.arr (1) (r3.1.length) (atL rowI r3.1))])]⟩),(48,⟨z0,[(false,[.tr true (.arr (2) (r3.2.length) ((eL 2 Hd.cs r3.2).fn))])]⟩),(52,⟨z0,[(false,[.tr true (.arr (11) (nx52) (fx52))])]⟩),(56,⟨z0,[(false,[.tr true (T.int i64 x56)])]⟩),(76,⟨z0,[(true,[.tr true (T.int i64 r1.c.1),.tr true (T.int i64 r1.c.2),.tr true (T.int i64 r1.c.3),.tr true (T.int i64 r1.c.4),.tr true (T.int i64 r1.c.5),.tr true (T.int i64 r1.c.6),.tr true (T.hole),.tr true (T.hole)])]⟩)]
def st_sEagerGive_2 (k:Nat) (m:Ml) (h:Hd) (w:Bool) (r1:Ml) (r3:List Int × List Hd) (nx33_6:Nat) (fx33_6:Nat→Nat→T) (nx52:Nat) (fx52:Nat→Nat→T) (x56:Int) (nx64:Nat) (fx64:Nat→Nat→T) (x68:Int):St:=[(8,⟨z0,[(false,[.tr true (T.bool w)])]⟩),(16,⟨z0,[(false,[(C.pt (Pt.ptr 17 0 [] 2 0 0))])]⟩),(17,⟨z0,[(true,[.tr true (T.int i64 h.1),.tr true (T.int i64 h.2)])]⟩),(24,⟨z0,[(false,[(C.pt (Pt.ptr 25 0 [] 8 0 0))])]⟩),(25,⟨z0,[(true,[.tr true (T.int i64 0),.tr true (T.int i64 0),.tr true (T.int i64 0),.tr true (T.int i64 0),.tr true (T.int i64 0),.tr true (T.int i64 0),.tr true (.arr (11) (0) (fun x x_1=>T.hole)),.tr true (.arr (1) (0) (fun x x_1=>T.hole))])]⟩),(32,⟨z0,[(false,[(C.pt (Pt.ptr 33 0 [] 8 0 0))])]⟩),(33,⟨z0,[(true,[.tr true (T.int i64 r1.c.1),.tr true (T.int i64 r1.c.2),.tr true (T.int i64 r1.c.3),.tr true (T.int i64 r1.c.4),.tr true (T.int i64 r1.c.5),.tr true (T.int i64 r1.c.6),.tr true (.arr (11) (nx33_6) (fx33_6)),.tr true (.arr (1) (r1.3.length) ((eL 1 rowI r1.3).fn))])]⟩),(44,⟨z0,[(false,[.tr true (.arr (1) (r3.1.length) (atL rowI r3.1))])]⟩),(48,⟨z0,[(false,[.tr true (.arr (2) (r3.2.length) ((eL 2 Hd.cs r3.2).fn))])]⟩),(52,⟨z0,[(false,[.tr true (.arr (11) (nx52) (fx52))])]⟩),(56,⟨z0,[(false,[.tr true (T.int i64 x56)])]⟩),(60,⟨z0,[(false,[(C.pt (Pt.ptr 61 0 [] 11 0 0))])]⟩),(61,⟨z0,[(true,[.tr true (T.int i64 (fx33_6 (0+x56.toNat) 0).toI),.tr true (T.int i64 (fx33_6 (0+x56.toNat) 1).toI),.tr true (T.int i64 (fx33_6 (0+x56.toNat) 2).toI),.tr true (T.int i64 (fx33_6 (0+x56.toNat) 3).toI),(C.ref 33 0 [0,6,0+x56.toNat,4] 2 0 (fx33_6 (0+x56.toNat) 4).ln),.tr true (T.int i64 (fx33_6 (0+x56.toNat) 5).toI),.tr true (T.int i64 (fx33_6 (0+x56.toNat) 6).toI),.tr true (T.bool (fx33_6 (0+x56.toNat) 7).toB),.tr true (T.int i64 (fx33_6 (0+x56.toNat) 8).toI),(C.ref 33 0 [0,6,0+x56.toNat,9] 1 0 (fx33_6 (0+x56.toNat) 9).ln),(C.ref 33 0 [0,6,0+x56.toNat,10] 1 0 (fx33_6 (0+x56.toNat) 10).ln)])]⟩),(64,⟨z0,[(false,[.tr true (.arr (2) (nx64) (fx64))])]⟩),(68,⟨z0,[(false,[.tr true (T.int i64 x68)])]⟩),(76,⟨z0,[(true,[.tr true (T.int i64 r1.c.1),.tr true (T.int i64 r1.c.2),.tr true (T.int i64 r1.c.3),.tr true (T.int i64 r1.c.4),.tr true (T.int i64 r1.c.5),.tr true (T.int i64 r1.c.6),.tr true (T.hole),.tr true (T.hole)])]⟩),(180,⟨z0,[(false,[(C.pt (Pt.ptr 33 0 [] 8 0 6))])]⟩),(184,⟨z0,[(false,[(C.ref 33 0 [0,6] 11 0 nx33_6)])]⟩),(188,⟨z0,[(false,[.tr true (T.int i64 x56)])]⟩),(192,⟨z0,[(false,[(C.pt (Pt.ptr 33 0 [0,6] 11 (0+x56.toNat) 0))])]⟩),(196,⟨z0,[(true,[.tr true (T.int i64 (fx33_6 (0+x56.toNat) 0).toI),.tr true (T.int i64 (fx33_6 (0+x56.toNat) 1).toI),.tr true (T.int i64 (fx33_6 (0+x56.toNat) 2).toI),.tr true (T.int i64 (fx33_6 (0+x56.toNat) 3).toI),(C.ref 33 0 [0,6,0+x56.toNat,4] 2 0 (fx33_6 (0+x56.toNat) 4).ln),.tr true (T.int i64 (fx33_6 (0+x56.toNat) 5).toI),.tr true (T.int i64 (fx33_6 (0+x56.toNat) 6).toI),.tr true (T.bool (fx33_6 (0+x56.toNat) 7).toB),.tr true (T.int i64 (fx33_6 (0+x56.toNat) 8).toI),(C.ref 33 0 [0,6,0+x56.toNat,9] 1 0 (fx33_6 (0+x56.toNat) 9).ln),(C.ref 33 0 [0,6,0+x56.toNat,10] 1 0 (fx33_6 (0+x56.toNat) 10).ln)])]⟩)]
def ex_sEagerGive_2_1 (k:Nat) (m:Ml) (h:Hd) (w:Bool) (r1:Ml) (r3:List Int × List Hd) (nx33_6:Nat) (fx33_6:Nat→Nat→T) (nx52:Nat) (fx52:Nat→Nat→T) (x56:Int) (nx64:Nat) (fx64:Nat→Nat→T) (x68:Int):St:=[(8,⟨z0,[(false,[.tr true (T.bool w)])]⟩),(16,⟨z0,[(false,[(C.pt (Pt.ptr 17 0 [] 2 0 0))])]⟩),(17,⟨z0,[(true,[.tr true (T.int i64 h.1),.tr true (T.int i64 h.2)])]⟩),(24,⟨z0,[(false,[(C.pt (Pt.ptr 25 0 [] 8 0 0))])]⟩),(25,⟨z0,[(true,[.tr true (T.int i64 0),.tr true (T.int i64 0),.tr true (T.int i64 0),.tr true (T.int i64 0),.tr true (T.int i64 0),.tr true (T.int i64 0),.tr true (.arr (11) (0) (fun x x_1=>T.hole)),.tr true (.arr (1) (0) (fun x x_1=>T.hole))])]⟩),(32,⟨z0,[(false,[(C.pt (Pt.ptr 33 0 [] 8 0 0))])]⟩),(33,⟨z0,[(true,[.tr true (T.int i64 r1.c.1),.tr true (T.int i64 r1.c.2),.tr true (T.int i64 r1.c.3),.tr true (T.int i64 r1.c.4),.tr true (T.int i64 r1.c.5),.tr true (T.int i64 r1.c.6),.tr true (.arr (11) (nx33_6) (fx33_6)),.tr true (.arr (1) (r1.3.length) ((eL 1 rowI r1.3).fn))])]⟩),(44,⟨z0,[(false,[.tr true (.arr (1) (r3.1.length) (atL rowI r3.1))])]⟩),(48,⟨z0,[(false,[.tr true (.arr (2) (r3.2.length) ((eL 2 Hd.cs r3.2).fn))])]⟩),(52,⟨z0,[(false,[.tr true (.arr (11) (nx52) (fx52))])]⟩),(56,⟨z0,[(false,[.tr true (T.int i64 x56)])]⟩),(60,⟨z0,[(false,[(C.pt (Pt.ptr 61 0 [] 11 0 0))])]⟩),(61,⟨z0,[(true,[.tr true (T.int i64 (fx33_6 (0+x56.toNat) 0).toI),.tr true (T.int i64 (fx33_6 (0+x56.toNat) 1).toI),.tr true (T.int i64 (fx33_6 (0+x56.toNat) 2).toI),.tr true (T.int i64 (fx33_6 (0+x56.toNat) 3).toI),(C.ref 33 0 [0,6,0+x56.toNat,4] 2 0 (fx33_6 (0+x56.toNat) 4).ln),.tr true (T.int i64 (fx33_6 (0+x56.toNat) 5).toI),.tr true (T.int i64 (fx33_6 (0+x56.toNat) 6).toI),.tr true (T.bool (fx33_6 (0+x56.toNat) 7).toB),.tr true (T.int i64 (fx33_6 (0+x56.toNat) 8).toI),(C.ref 33 0 [0,6,0+x56.toNat,9] 1 0 (fx33_6 (0+x56.toNat) 9).ln),(C.ref 33 0 [0,6,0+x56.toNat,10] 1 0 (fx33_6 (0+x56.toNat) 10).ln)])]⟩),(64,⟨z0,[(false,[.tr true (.arr (2) (nx64) (fx64))])]⟩),(68,⟨z0,[(false,[.tr true (T.int i64 x68)])]⟩),(76,⟨z0,[(true,[.tr true (T.int i64 r1.c.1),.tr true (T.int i64 r1.c.2),.tr true (T.int i64 r1.c.3),.tr true (T.int i64 r1.c.4),.tr true (T.int i64 r1.c.5),.tr true (T.int i64 r1.c.6),.tr true (T.hole),.tr true (T.hole)])]⟩),(180,⟨z0,[(false,[(C.pt (Pt.ptr 33 0 [] 8 0 6))])]⟩),(184,⟨z0,[(false,[(C.ref 33 0 [0,6] 11 0 nx33_6)])]⟩),(188,⟨z0,[(false,[.tr true (T.int i64 x56)])]⟩),(192,⟨z0,[(false,[(C.pt (Pt.ptr 33 0 [0,6] 11 (0+x56.toNat) 0))])]⟩),(196,⟨z0,[(true,[.tr true (T.int i64 (fx33_6 (0+x56.toNat) 0).toI),.tr true (T.int i64 (fx33_6 (0+x56.toNat) 1).toI),.tr true (T.int i64 (fx33_6 (0+x56.toNat) 2).toI),.tr true (T.int i64 (fx33_6 (0+x56.toNat) 3).toI),(C.ref 33 0 [0,6,0+x56.toNat,4] 2 0 (fx33_6 (0+x56.toNat) 4).ln),.tr true (T.int i64 (fx33_6 (0+x56.toNat) 5).toI),.tr true (T.int i64 (fx33_6 (0+x56.toNat) 6).toI),.tr true (T.bool (fx33_6 (0+x56.toNat) 7).toB),.tr true (T.int i64 (fx33_6 (0+x56.toNat) 8).toI),(C.ref 33 0 [0,6,0+x56.toNat,9] 1 0 (fx33_6 (0+x56.toNat) 9).ln),(C.ref 33 0 [0,6,0+x56.toNat,10] 1 0 (fx33_6 (0+x56.toNat) 10).ln)])]⟩),(316,⟨z0,[]⟩)]
theorem round_sEagerGive_2 (k:Nat) (m:Ml) (h:Hd) (w:Bool) (r1:Ml) (r3:List Int × List Hd) (nx33_6:Nat) (fx33_6:Nat→Nat→T) (nx52:Nat) (fx52:Nat→Nat→T) (x56:Int) (nx64:Nat) (fx64:Nat→Nat→T) (x68:Int) (n:Nat) (K:Ex→St→Res):roundAt prog (tabS [(i_sModel,e_sModel),(i_sRsv,e_sRsv),(i_sHasH,e_sHasH),(i_told,e_told k)]) kp_sEagerGive F_sEagerGive (ons 6 [0,1,0,0,1,0,0,1,0,0,1,1,1,1,1,0,1,0,1,0]) n (st_sEagerGive_2 k m h w r1 r3 nx33_6 fx33_6 nx52 fx52 x56 nx64 fx64 x68) K=(bif decide (x68 < (↑(fx33_6 (0+x56.toNat) 4).ln:Int)) then gd (decide (0≤x68)&&(x68.toNat.blt (fx33_6 (0+x56.toNat) 4).ln&&true))<|gd ((0+x56.toNat).blt nx33_6&&true&&true&&((T.arr 11 nx33_6 fx33_6).get [0+x56.toNat,4]).isArr)<|gd (Nat.beq 2 ((T.arr 11 nx33_6 fx33_6).get [0+x56.toNat,4]).wd&&((0+x68.toNat).blt ((T.arr 11 nx33_6 fx33_6).get [0+x56.toNat,4]).ln&&true)&&(T.isI i64 (((T.arr 11 nx33_6 fx33_6).get [0+x56.toNat,4]).fn (0+x68.toNat) 0)&&T.isI i64 (((T.arr 11 nx33_6 fx33_6).get [0+x56.toNat,4]).fn (0+x68.toNat) 1)))<|bif !bif (((T.arr 11 nx33_6 fx33_6).get [0+x56.toNat,4]).fn (0+x68.toNat) 0).toI == h.1 then bif (((T.arr 11 nx33_6 fx33_6).get [0+x56.toNat,4]).fn (0+x68.toNat) 1).toI == h.2 then true else false else false then gd (decide (0≤x68)&&(x68.toNat.blt (fx33_6 (0+x56.toNat) 4).ln&&true))<|gd ((0+x56.toNat).blt nx33_6&&true&&true&&((T.arr 11 nx33_6 fx33_6).get [0+x56.toNat,4]).isArr)<|gd (Nat.beq 2 ((T.arr 11 nx33_6 fx33_6).get [0+x56.toNat,4]).wd&&((0+x68.toNat).blt ((T.arr 11 nx33_6 fx33_6).get [0+x56.toNat,4]).ln&&true)&&(T.isI i64 (((T.arr 11 nx33_6 fx33_6).get [0+x56.toNat,4]).fn (0+x68.toNat) 0)&&T.isI i64 (((T.arr 11 nx33_6 fx33_6).get [0+x56.toNat,4]).fn (0+x68.toNat) 1)))<|gl nx64<|gd (((nx64+1) * 16).ble 70368744177664&&(nx64+1).ble 70368744177664)<|gd ((nx64+1).ble (nx64+1)&&true)<|K .normal (st_sEagerGive_2 k m h w r1 r3 nx33_6 fx33_6 nx52 fx52 x56 (nx64+1) (appF nx64 fx64 (plainF (cutT 0 1 (rowsT [[T.int i64 (((T.arr 11 nx33_6 fx33_6).get [0+x56.toNat,4]).fn (0+x68.toNat) 0).toI,T.int i64 (((T.arr 11 nx33_6 fx33_6).get [0+x56.toNat,4]).fn (0+x68.toNat) 1).toI]])))) (i64.wrap (x68+1))) else K .normal (st_sEagerGive_2 k m h w r1 r3 nx33_6 fx33_6 nx52 fx52 x56 (nx64) (fx64) (i64.wrap (x68+1))) else K (.exit 3) (ex_sEagerGive_2_1 k m h w r1 r3 nx33_6 fx33_6 nx52 fx52 x56 nx64 fx64 x68)):=by kernel_rfl
theorem post_sEagerGive_2_1 (k:Nat) (m:Ml) (h:Hd) (w:Bool) (r1:Ml) (r3:List Int × List Hd) (nx33_6:Nat) (fx33_6:Nat→Nat→T) (nx52:Nat) (fx52:Nat→Nat→T) (x56:Int) (nx64:Nat) (fx64:Nat→Nat→T) (x68:Int) (n:Nat) (K:Ex→St→Res):contIn prog (tabS [(i_sModel,e_sModel),(i_sRsv,e_sRsv),(i_sHasH,e_sHasH),(i_told,e_told k)]) kp_sEagerGive F_sEagerGive (ons 6 [0,1,0]) [1,0,0,1,0,0,1,1,1,1,1,0,1,0,1,0] n K (.exit 3) (ex_sEagerGive_2_1 k m h w r1 r3 nx33_6 fx33_6 nx52 fx52 x56 nx64 fx64 x68)=(gl nx64<|gl nx64<|gd ((0+x56.toNat).blt nx33_6&&true&&true&&((T.arr 11 nx33_6 fx33_6).get [0+x56.toNat,9]).isArr)<|gd ((fx33_6 (0+x56.toNat) 9).ln.ble ((T.arr 11 nx33_6 fx33_6).get [0+x56.toNat,9]).ln&&Nat.beq 1 ((T.arr 11 nx33_6 fx33_6).get [0+x56.toNat,9]).wd)<|gd ((0+x56.toNat).blt nx33_6&&true&&true&&((T.arr 11 nx33_6 (setF (0+x56.toNat) 9 T.hole fx33_6)).get [0+x56.toNat,10]).isArr)<|gd ((fx33_6 (0+x56.toNat) 10).ln.ble ((T.arr 11 nx33_6 (setF (0+x56.toNat) 9 T.hole fx33_6)).get [0+x56.toNat,10]).ln&&Nat.beq 1 ((T.arr 11 nx33_6 (setF (0+x56.toNat) 9 T.hole fx33_6)).get [0+x56.toNat,10]).wd)<|gl nx52<|gd (((nx52+1) * 136).ble 70368744177664&&(nx52+1).ble 70368744177664)<|gd ((nx52+1).ble (nx52+1)&&true)<|K .normal (st_sEagerGive_1 k m h w r1 r3 (nx33_6) (setF (0+x56.toNat) 10 T.hole (setF (0+x56.toNat) 9 T.hole fx33_6)) (nx52+1) (appF nx52 fx52 (rowsT [[T.int i64 (fx33_6 (0+x56.toNat) 0).toI,T.int i64 (fx33_6 (0+x56.toNat) 1).toI,T.int i64 (fx33_6 (0+x56.toNat) 2).toI,T.int i64 (fx33_6 (0+x56.toNat) 3).toI,T.arr 2 nx64 fx64,T.int i64 (fx33_6 (0+x56.toNat) 5).toI,T.int i64 (fx33_6 (0+x56.toNat) 6).toI,T.bool (fx33_6 (0+x56.toNat) 7).toB,T.int i64 (fx33_6 (0+x56.toNat) 8).toI,T.arr 1 (fx33_6 (0+x56.toNat) 9).ln ((T.arr 11 nx33_6 fx33_6).get [0+x56.toNat,9]).fn,T.arr 1 (fx33_6 (0+x56.toNat) 10).ln ((T.arr 11 nx33_6 (setF (0+x56.toNat) 9 T.hole fx33_6)).get [0+x56.toNat,10]).fn]])) (i64.wrap (x56+1)))):=by kernel_rfl
def ex_sEagerGive_1_1 (k:Nat) (m:Ml) (h:Hd) (w:Bool) (r1:Ml) (r3:List Int × List Hd) (nx33_6:Nat) (fx33_6:Nat→Nat→T) (nx52:Nat) (fx52:Nat→Nat→T) (x56:Int):St:=[(8,⟨z0,[(false,[.tr true (T.bool w)])]⟩),(16,⟨z0,[(false,[(C.pt (Pt.ptr 17 0 [] 2 0 0))])]⟩),(17,⟨z0,[(true,[.tr true (T.int i64 h.1),.tr true (T.int i64 h.2)])]⟩),(24,⟨z0,[(false,[(C.pt (Pt.ptr 25 0 [] 8 0 0))])]⟩),(25,⟨z0,[(true,[.tr true (T.int i64 0),.tr true (T.int i64 0),.tr true (T.int i64 0),.tr true (T.int i64 0),.tr true (T.int i64 0),.tr true (T.int i64 0),.tr true (.arr (11) (0) (fun x x_1=>T.hole)),.tr true (.arr (1) (0) (fun x x_1=>T.hole))])]⟩),(32,⟨z0,[(false,[(C.pt (Pt.ptr 33 0 [] 8 0 0))])]⟩),(33,⟨z0,[(true,[.tr true (T.int i64 r1.c.1),.tr true (T.int i64 r1.c.2),.tr true (T.int i64 r1.c.3),.tr true (T.int i64 r1.c.4),.tr true (T.int i64 r1.c.5),.tr true (T.int i64 r1.c.6),.tr true (.arr (11) (nx33_6) (fx33_6)),.tr true (.arr (1) (r1.3.length) ((eL 1 rowI r1.3).fn))])]⟩),(44,⟨z0,[(false,[.tr true (.arr (1) (r3.1.length) (atL rowI r3.1))])]⟩),(48,⟨z0,[(false,[.tr true (.arr (2) (r3.2.length) ((eL 2 Hd.cs r3.2).fn))])]⟩),(52,⟨z0,[(false,[.tr true (.arr (11) (nx52) (fx52))])]⟩),(56,⟨z0,[(false,[.tr true (T.int i64 x56)])]⟩),(76,⟨z0,[(true,[.tr true (T.int i64 r1.c.1),.tr true (T.int i64 r1.c.2),.tr true (T.int i64 r1.c.3),.tr true (T.int i64 r1.c.4),.tr true (T.int i64 r1.c.5),.tr true (T.int i64 r1.c.6),.tr true (T.hole),.tr true (T.hole)])]⟩),(168,⟨z0,[]⟩)]
theorem round_sEagerGive_1 (k:Nat) (m:Ml) (h:Hd) (w:Bool) (r1:Ml) (r3:List Int × List Hd) (nx33_6:Nat) (fx33_6:Nat→Nat→T) (nx52:Nat) (fx52:Nat→Nat→T) (x56:Int) (n:Nat) (K:Ex→St→Res):roundAt prog (tabS [(i_sModel,e_sModel),(i_sRsv,e_sRsv),(i_sHasH,e_sHasH),(i_told,e_told k)]) kp_sEagerGive F_sEagerGive (ons 6 [0,1,0]) n (st_sEagerGive_1 k m h w r1 r3 nx33_6 fx33_6 nx52 fx52 x56) K=(let q0:=setF (0+x56.toNat) 4 T.hole fx33_6;let q1:=setF (0+x56.toNat) 9 T.hole q0;let q2:=T.arr 2 r3.2.length (cutT 0 r3.2.length (eL 2 Hd.cs r3.2).fn);let q3:=appF nx52 fx52 (rowsT [[T.int i64 (fx33_6 (0+x56.toNat) 0).toI,T.int i64 (fx33_6 (0+x56.toNat) 1).toI,T.int i64 (fx33_6 (0+x56.toNat) 2).toI,T.int i64 (fx33_6 (0+x56.toNat) 3).toI,T.arr 2 (fx33_6 (0+x56.toNat) 4).ln ((T.arr 11 nx33_6 fx33_6).get [0+x56.toNat,4]).fn,T.int i64 (fx33_6 (0+x56.toNat) 5).toI,T.int i64 (fx33_6 (0+x56.toNat) 6).toI,T.bool (fx33_6 (0+x56.toNat) 7).toB,T.int i64 (fx33_6 (0+x56.toNat) 8).toI,T.arr 1 (fx33_6 (0+x56.toNat) 9).ln ((T.arr 11 nx33_6 q0).get [0+x56.toNat,9]).fn,T.arr 1 (fx33_6 (0+x56.toNat) 10).ln ((T.arr 11 nx33_6 q1).get [0+x56.toNat,10]).fn]]);bif decide (x56 < (↑nx33_6:Int)) then gd (decide (0≤x56)&&(x56.toNat.blt nx33_6&&true))<|gd ((0+x56.toNat).blt nx33_6&&true&&(T.isI i64 (fx33_6 (0+x56.toNat) 0)&&T.isI i64 (fx33_6 (0+x56.toNat) 1)&&T.isI i64 (fx33_6 (0+x56.toNat) 2)&&T.isI i64 (fx33_6 (0+x56.toNat) 3)&&((fx33_6 (0+x56.toNat) 4).isArr&&(fx33_6 (0+x56.toNat) 4).wd.beq 2)&&T.isI i64 (fx33_6 (0+x56.toNat) 5)&&T.isI i64 (fx33_6 (0+x56.toNat) 6)&&(fx33_6 (0+x56.toNat) 7).isB&&T.isI i64 (fx33_6 (0+x56.toNat) 8)&&((fx33_6 (0+x56.toNat) 9).isArr&&(fx33_6 (0+x56.toNat) 9).wd.beq 1)&&((fx33_6 (0+x56.toNat) 10).isArr&&(fx33_6 (0+x56.toNat) 10).wd.beq 1)))<|bif bif (fx33_6 (0+x56.toNat) 0).toI == h.1 then bif (fx33_6 (0+x56.toNat) 1).toI == h.2 then true else false else false then bif !w then gl nx52<|gd (((nx52+1) * 136).ble 70368744177664&&(nx52+1).ble 70368744177664)<|gd ((nx52+1).ble (nx52+1)&&true)<|K .normal (st_sEagerGive_1 k m h w r1 r3 (nx33_6) (fx33_6) (nx52+1) (appF nx52 fx52 (rowsT [[T.int i64 (fx33_6 (0+x56.toNat) 0).toI,T.int i64 (fx33_6 (0+x56.toNat) 1).toI,T.int i64 (fx33_6 (0+x56.toNat) 2).toI,T.int i64 (fx33_6 (0+x56.toNat) 3).toI,T.arr 2 0 fun x x_1=>T.hole,T.int i64 (i64.wrap ((fx33_6 (0+x56.toNat) 5).toI+1)),T.int i64 0,T.bool false,T.int i64 0,T.arr 1 0 fun x x_1=>T.hole,T.arr 1 0 fun x x_1=>T.hole]])) (i64.wrap (x56+1))) else gd ((0+r3.2.length).ble r3.2.length)<|entK ok_sHasH ea_sHasH (f_sHasH) [(0,false,[C.tr false q2]),(0,true,[C.tr false (T.int i64 (fx33_6 (0+x56.toNat) 0).toI),C.tr false (T.int i64 (fx33_6 (0+x56.toNat) 1).toI)])] fun (r4:Bool)=>bif r4 then K .normal (st_sEagerGive_1 k m h w r1 r3 (nx33_6) (fx33_6) (nx52) (fx52) (i64.wrap (x56+1))) else bif w then loopAt prog (tabS [(i_sModel,e_sModel),(i_sRsv,e_sRsv),(i_sHasH,e_sHasH),(i_told,e_told k)]) kp_sEagerGive F_sEagerGive (ons 6 [0,1,0,0,1,0,0,1,0,0,1,1,1,1,1,0,1,0,1,0]) n n (st_sEagerGive_2 k m h w r1 r3 nx33_6 fx33_6 nx52 fx52 x56 (0) (rowsT []) (0)) (contIn prog (tabS [(i_sModel,e_sModel),(i_sRsv,e_sRsv),(i_sHasH,e_sHasH),(i_told,e_told k)]) kp_sEagerGive F_sEagerGive (ons 6 [0,1,0]) [1,0,0,1,0,0,1,1,1,1,1,0,1,0,1,0] n K) else gd ((0+x56.toNat).blt nx33_6&&true&&true&&((T.arr 11 nx33_6 fx33_6).get [0+x56.toNat,4]).isArr)<|gd ((fx33_6 (0+x56.toNat) 4).ln.ble ((T.arr 11 nx33_6 fx33_6).get [0+x56.toNat,4]).ln&&Nat.beq 2 ((T.arr 11 nx33_6 fx33_6).get [0+x56.toNat,4]).wd)<|gd ((0+x56.toNat).blt nx33_6&&true&&true&&((T.arr 11 nx33_6 q0).get [0+x56.toNat,9]).isArr)<|gd ((fx33_6 (0+x56.toNat) 9).ln.ble ((T.arr 11 nx33_6 q0).get [0+x56.toNat,9]).ln&&Nat.beq 1 ((T.arr 11 nx33_6 q0).get [0+x56.toNat,9]).wd)<|gd ((0+x56.toNat).blt nx33_6&&true&&true&&((T.arr 11 nx33_6 q1).get [0+x56.toNat,10]).isArr)<|gd ((fx33_6 (0+x56.toNat) 10).ln.ble ((T.arr 11 nx33_6 q1).get [0+x56.toNat,10]).ln&&Nat.beq 1 ((T.arr 11 nx33_6 q1).get [0+x56.toNat,10]).wd)<|gl nx52<|gd (((nx52+1) * 136).ble 70368744177664&&(nx52+1).ble 70368744177664)<|gd ((nx52+1).ble (nx52+1)&&true)<|K .normal (st_sEagerGive_1 k m h w r1 r3 (nx33_6) (setF (0+x56.toNat) 10 T.hole q1) (nx52+1) q3 (i64.wrap (x56+1))) else gd ((0+r3.2.length).ble r3.2.length)<|entK ok_sHasH ea_sHasH (f_sHasH) [(0,false,[C.tr false q2]),(0,true,[C.tr false (T.int i64 (fx33_6 (0+x56.toNat) 0).toI),C.tr false (T.int i64 (fx33_6 (0+x56.toNat) 1).toI)])] fun (r5:Bool)=>bif r5 then K .normal (st_sEagerGive_1 k m h w r1 r3 (nx33_6) (fx33_6) (nx52) (fx52) (i64.wrap (x56+1))) else bif w then loopAt prog (tabS [(i_sModel,e_sModel),(i_sRsv,e_sRsv),(i_sHasH,e_sHasH),(i_told,e_told k)]) kp_sEagerGive F_sEagerGive (ons 6 [0,1,0,0,1,0,0,1,0,0,1,1,1,1,1,0,1,0,1,0]) n n (st_sEagerGive_2 k m h w r1 r3 nx33_6 fx33_6 nx52 fx52 x56 (0) (rowsT []) (0)) (contIn prog (tabS [(i_sModel,e_sModel),(i_sRsv,e_sRsv),(i_sHasH,e_sHasH),(i_told,e_told k)]) kp_sEagerGive F_sEagerGive (ons 6 [0,1,0]) [1,0,0,1,0,0,1,1,1,1,1,0,1,0,1,0] n K) else gd ((0+x56.toNat).blt nx33_6&&true&&true&&((T.arr 11 nx33_6 fx33_6).get [0+x56.toNat,4]).isArr)<|gd ((fx33_6 (0+x56.toNat) 4).ln.ble ((T.arr 11 nx33_6 fx33_6).get [0+x56.toNat,4]).ln&&Nat.beq 2 ((T.arr 11 nx33_6 fx33_6).get [0+x56.toNat,4]).wd)<|gd ((0+x56.toNat).blt nx33_6&&true&&true&&((T.arr 11 nx33_6 q0).get [0+x56.toNat,9]).isArr)<|gd ((fx33_6 (0+x56.toNat) 9).ln.ble ((T.arr 11 nx33_6 q0).get [0+x56.toNat,9]).ln&&Nat.beq 1 ((T.arr 11 nx33_6 q0).get [0+x56.toNat,9]).wd)<|gd ((0+x56.toNat).blt nx33_6&&true&&true&&((T.arr 11 nx33_6 q1).get [0+x56.toNat,10]).isArr)<|gd ((fx33_6 (0+x56.toNat) 10).ln.ble ((T.arr 11 nx33_6 q1).get [0+x56.toNat,10]).ln&&Nat.beq 1 ((T.arr 11 nx33_6 q1).get [0+x56.toNat,10]).wd)<|gl nx52<|gd (((nx52+1) * 136).ble 70368744177664&&(nx52+1).ble 70368744177664)<|gd ((nx52+1).ble (nx52+1)&&true)<|K .normal (st_sEagerGive_1 k m h w r1 r3 (nx33_6) (setF (0+x56.toNat) 10 T.hole q1) (nx52+1) q3 (i64.wrap (x56+1))) else K (.exit 0) (ex_sEagerGive_1_1 k m h w r1 r3 nx33_6 fx33_6 nx52 fx52 x56)):=by kernel_rfl
theorem post_sEagerGive_1_1 (k:Nat) (m:Ml) (h:Hd) (w:Bool) (r1:Ml) (r3:List Int × List Hd) (nx33_6:Nat) (fx33_6:Nat→Nat→T) (nx52:Nat) (fx52:Nat→Nat→T) (x56:Int) (n:Nat):contAt prog (tabS [(i_sModel,e_sModel),(i_sRsv,e_sRsv),(i_sHasH,e_sHasH),(i_told,e_told k)]) kp_sEagerGive F_sEagerGive ts_sEagerGive (ons 6 [0,1,0]) [] n (.exit 0) (ex_sEagerGive_1_1 k m h w r1 r3 nx33_6 fx33_6 nx52 fx52 x56)=(gl nx52<|gl r1.3.length<|gd ((0+r3.1.length).ble r3.1.length)<|gd (((r1.3.length+r3.1.length) * 8).ble 70368744177664&&(r1.3.length+r3.1.length).ble 70368744177664)<|gd ((r1.3.length+r3.1.length).ble (r1.3.length+r3.1.length)&&true)<|gl nx52<|gd ((r1.3.length+r3.1.length).ble (r1.3.length+r3.1.length)&&true)<|gl nx52<|gd ((r1.3.length+r3.1.length).ble (r1.3.length+r3.1.length)&&true)<|some ([(true,[.tr true (T.int i64 r1.c.1),.tr true (T.int i64 r1.c.2),.tr true (T.int i64 r1.c.3),.tr true (T.int i64 r1.c.4),.tr true (T.int i64 r1.c.5),.tr true (T.int i64 r1.c.6),.tr true (.arr (11) (nx52) (fx52)),.tr true (.arr (1) (r1.3.length+r3.1.length) (appF r1.3.length (eL 1 rowI r1.3).fn (plainF (cutT 0 r3.1.length (atL rowI r3.1)))))]),(false,[.tr true (T.int i64 0)])],[(false,[]),(false,[]),(false,[])])):=by kernel_rfl
theorem pre_sEagerGive (k:Nat) (m:Ml) (h:Hd) (w:Bool) (n:Nat):body prog (tabS [(i_sModel,e_sModel),(i_sRsv,e_sRsv),(i_sHasH,e_sHasH),(i_told,e_told k)]) kp_sEagerGive n F_sEagerGive [aR m.cs,aR h.cs,aB w]=(entK ok_sModel ea_sModel (f_sModel) [(wMl m)] fun (r1:Ml)=>gl r1.2.length<|gl r1.3.length<|entK ok_sRsv ea_sRsv (f_sRsv) [(wMl m),(wHd h)] fun (r2:Int × Int)=>bif r2.2 != 0 then gl r1.2.length<|gl r1.3.length<|gl r1.2.length<|gl r1.3.length<|some ([(oR (Ml.cs r1)),(false,[.tr true (T.int i64 r2.2)])],[(false,[]),(false,[]),(false,[])]) else entK (ok_told k) ea_told (f_told k) [(wMl m),(wHd h),(3,false,[C.tr true (T.arr 2 0 (rowsT []))])] fun (r3:List Int × List Hd)=>gl r3.1.length<|gl r3.2.length<|loopAt prog (tabS [(i_sModel,e_sModel),(i_sRsv,e_sRsv),(i_sHasH,e_sHasH),(i_told,e_told k)]) kp_sEagerGive F_sEagerGive (ons 6 [0,1,0]) n n (st_sEagerGive_1 k m h w r1 r3 (r1.2.length) ((eL 11 Rm.cs r1.2).fn) (0) (rowsT []) (0)) (contAt prog (tabS [(i_sModel,e_sModel),(i_sRsv,e_sRsv),(i_sHasH,e_sHasH),(i_told,e_told k)]) kp_sEagerGive F_sEagerGive ts_sEagerGive (ons 6 [0,1,0]) [] n)):=by kernel_rfl
end Go.Mach.F
namespace Go.Mach.F
open Go Go.Mach Go.Proofs.Tryz
/-- A list of which the first elements are turned. -/
def gvA {α:Type} (g:α→α) (l:List α) (i:Nat):List α:=(l.take i).map g ++ l.drop i
theorem gvA_get {α:Type} (g:α→α) {l:List α} {i:Nat} (h:i < l.length):(gvA g l i)[i]?=l[i]?:=by
 unfold gvA
 have hl:((l.take i).map g).length=i:=by rw [List.length_map,List.length_take];omega
 rw [List.getElem?_append_right (by omega),hl,List.getElem?_drop,Nat.sub_self,Nat.add_zero]
theorem gvA_end {α:Type} (g:α→α) (l:List α):gvA g l l.length=l.map g:=by
 unfold gvA
 rw [List.take_length,List.drop_length,List.append_nil]
theorem gvA_next {α:Type} (g:α→α) {l:List α} {i:Nat} {x:α} (hx:l[i]?=some x):gvA g l (i+1)=(gvA g l i).set i (g x):=by
 have h:=(List.getElem?_eq_some_iff.1 hx).1
 have hl:((l.take i).map g).length=i:=by rw [List.length_map,List.length_take];omega
 have e:=(List.getElem?_eq_some_iff.1 hx).2
 unfold gvA
 rw [List.take_add_one,hx,List.map_append,List.append_assoc,List.set_append_right _ _ (by omega),hl,Nat.sub_self,List.drop_eq_getElem_cons h,e]
 rfl
theorem set_same {α:Type} {l:List α} {i:Nat} {x:α} (h:l[i]?=some x):l.set i x=l:=by
 obtain ⟨h1,h2⟩:=List.getElem?_eq_some_iff.1 h
 rw [← h2]
 exact List.set_getElem_self h1
theorem ptF_list {l:List Rm} {i:Nat} {x y:Rm} (hy:l[i]?=some y):ptF (atL Rm.cs l) i x=atL Rm.cs (l.set i x):=by
 funext j k
 by_cases h:j=i
 ·subst h
  rw [atL_of (set_getH (y:=x) hy)]
  by_cases hk:k < 11
  ·rw [ptF_at hk]
  ·unfold ptF
   simp only [setF_d2,beqF (show k≠10 by omega),beqF (show k≠9 by omega),beqF (show k≠8 by omega),beqF (show k≠7 by omega),beqF (show k≠6 by omega),beqF (show k≠5 by omega),beqF (show k≠4 by omega),beqF (show k≠3 by omega),beqF (show k≠2 by omega),beqF (show k≠1 by omega),beqF (show k≠0 by omega),cond_false]
   rw [atL_of hy,List.getD_eq_getElem?_getD,List.getD_eq_getElem?_getD,List.getElem?_eq_none (by show 11≤k;omega),List.getElem?_eq_none (by show 11≤k;omega)]
 ·rw [ptF_off h]
  unfold atL
  rw [List.getElem?_set_ne (Ne.symm h)]
theorem givR_at {h:Hd} {w:Bool} {r:Rm} (e:r.h=h):givR h w r=⟨h,r.up,[],IntKind.i64.wrap (r.ep+1),0,false,0,[],[]⟩:=by
 unfold givR
 rw [decide_eq_true e,e]
 rfl
theorem givR_off {h:Hd} {w:Bool} {r:Rm} (e:¬ r.h=h):givR h w r=bif w then { r with kids:=r.kids.filter (fun y=>!decide (y=h)) } else r:=by
 unfold givR
 rw [decide_eq_false e]
 rfl
theorem hd_cond (x h:Hd):(bif x.slot == h.slot then bif x.gen == h.gen then true else false else false)=decide (x=h):=by
 rw [cond_bf,cond_tf,int_eq,int_eq,dec_and,hd_e1]
 exact decide_eq_decide.2 (by simp)
theorem body_iEagerGive (m:Ml) (h:Hd) (w:Bool) (h0:ok_iEagerGive (m,h,w)):body prog (tabS [(i_iModel,e_iModel),(i_iRsv,e_iRsv),(i_delR,e_delR),(i_delH,e_delH),(i_gat,e_gat (givN m))]) kp_iEagerGive (m.rooms.length+1) F_iEagerGive (ea_iEagerGive (m,h,w))=some ([oR (f_iEagerGive (m,h,w)).1.cs,oT (.int .i64 (f_iEagerGive (m,h,w)).2)],[nul,nul,nul]):=by
 have hlm:=lm
 obtain ⟨⟨h1,h2⟩,h3,h4⟩:(ok_RmS m.rooms∧ok_LI m.log)∧(allK m.rooms).length < LM∧cntL (fun r=>r.tags.length) m.rooms≤LM:=⟨⟨h0.1,h0.2.1⟩,h0.2.2.1,h0.2.2.2⟩
 have hl:m.rooms.length≤LM:=h1.1
 have hlog:m.log.length≤LM:=h2
 have c0:ok_iModel m:=⟨h1,h2⟩
 have c1:ok_iRsv (m,h):=hl
 unfold ea_iEagerGive f_iEagerGive givM
 dsimp only
 rw [pre_iEagerGive]
 try simp only [eL_T,Ml.cs,Hd.cs]
 rw [entK_of (dm_iModel c0) (iv_iModel c0)]
 simp only [d_iModel,rsx0,ble_d,Nat.le_refl]
 rw [entK_of (dm_iRsv c1) (iv_iRsv c1)]
 simp only [d_iRsv,int_ne,int_eq]
 by_cases e:(rsv m h).2=0
 case neg =>
  simp only [e,decide_false,Bool.not_false,cond_true,cond_false]
  rfl
 simp only [e,decide_true,Bool.not_true,cond_true,cond_false]
 have hm0:MetOk m.rooms h []:=⟨List.nodup_nil,fun x hx=>by cases hx⟩
 have c2:ok_gat (givN m) (m,h,[],[]):=⟨⟨h1,h3,h4,⟨h,hm0,.inl rfl⟩,by simp [givN]⟩,Nat.zero_le _⟩
 rw [show T.arr 2 0 (fun _ _=>T.hole)=T.arr 2 ([]:List Hd).length (atL Hd.cs []) from rfl,show T.arr 1 0 (fun _ _=>T.hole)=T.arr 1 ([]:List Int).length (atL rowI []) from rfl]
 rw [entK_of (dm_gat c2) (iv_gat c2)]
 have hgp:=gatH_inv m.rooms h (givN m) h ([],[]) 0 ⟨hm0,Nat.zero_le _,Nat.zero_le _⟩ (.inl rfl)
 have hal:=hgp.1.len
 have htl:=Nat.le_trans hgp.2.1 (sumL_le m.rooms hgp.1.nd)
 simp only [f_gat]
 obtain ⟨a,ha⟩:∃ a,a=gatH (givN m) m.rooms h ([],[]):=⟨_,rfl⟩
 rw [← ha] at hal htl ⊢
 have c3:ok_delR (m.rooms,⟨a.1,w,h⟩):=⟨hl,by show a.1.length≤LM;omega⟩
 rw [entK_of (dm_delR c3) (iv_delR c3)]
 simp only [d_delR]
 obtain ⟨l,hle⟩:∃ l,l=m.rooms.filter (fun y=>!gvK ⟨a.1,w,h⟩ y):=⟨_,rfl⟩
 have hll:l.length≤m.rooms.length:=by rw [hle];exact List.length_filter_le _ _
 have hmem:∀ x,x∈l→x∈m.rooms:=fun x hx=>by rw [hle] at hx;exact (List.mem_filter.1 hx).1
 rw [← hle]
 try simp only [ble_d,Nat.le_refl,decide_true,Bool.and_self,Bool.and_true,gdt]
 have hst:st_iEagerGive_1 (givN m) m h w m a l l.length (atL Rm.cs l) 0=(fun i:Nat=>st_iEagerGive_1 (givN m) m h w m a l l.length (atL Rm.cs (gvA (givR h w) l i)) (i:Nat)) 0:=rfl
 rw [hst,forLoop l.length (fun i:Nat=>st_iEagerGive_1 (givN m) m h w m a l l.length (atL Rm.cs (gvA (givR h w) l i)) (i:Nat)) (ex_iEagerGive_1_1 (givN m) m h w m a l l.length (atL Rm.cs (gvA (givR h w) l l.length)) l.length) 0 (fun i K hi=>?_) (fun K=>?_) _ (by omega)]
 ·have s1:(m.log.length+a.2.length) * 8≤70368744177664:=by omega
  have s2:m.log.length+a.2.length≤70368744177664:=by omega
  rw [post_iEagerGive_1_1]
  simp only [rsx0,ble_d,Nat.le_refl,s1,s2,cut_all,plain_I,appF_app,gvA_end,oR,oT,Ml.cs,eL_T,List.length_map,List.length_append]
  rfl
 ·have hx0:=List.getElem?_eq_getElem hi
  obtain ⟨x,hxe⟩:∃ x,x=l[i]:=⟨_,rfl⟩
  rw [← hxe] at hx0
  have hx:(gvA (givR h w) l i)[i]?=some x:=by rw [gvA_get _ hi,hx0]
  have hk:=(h1.2 _ (hmem _ (List.mem_of_getElem? hx0))).1.1
  have c4:ok_delH (x.kids,h):=hk
  have w1:IntKind.i64.wrap ((i:Int)+1)=((i+1:Nat):Int):=wrapS (by omega)
  rw [gvA_next _ hx0]
  rw [round_iEagerGive_1]
  simp only [rsx0,hi,ble_d,Nat.le_refl,atL_of hx,Rm.cs,w1,hd_cond]
  by_cases e1:x.h=h
  ·simp only [e1,decide_true,cond_true]
   rw [givR_at e1,← ptF_list hx]
   unfold ptF
   rfl
  ·simp only [e1,decide_false,cond_false]
   cases w with
   | false =>
    simp only [cond_false]
    rw [givR_off e1,cond_false,set_same hx]
   | true =>
    simp only [cond_true]
    rw [entK_of (dm_delH c4) (iv_delH c4)]
    simp only [d_delH,rsx0,ble_d,Nat.le_refl]
    rw [givR_off e1,cond_true,setF_setF,setF_list (y:={ x with kids:=x.kids.filter (fun y=>!decide (y=h)) }) hx rfl (by decide:4 < 11)]
 ·rw [round_iEagerGive_1]
  simp only [lt_d,Nat.lt_irrefl,decide_false,cond_false]
theorem s_iEagerGive:EntOk prog i_iEagerGive e_iEagerGive:=ent_ok ea_iEagerGive_inj fun x hx =>
 body_sound (φ:=(tabS [(i_iModel,e_iModel),(i_iRsv,e_iRsv),(i_delR,e_delR),(i_delH,e_delH),(i_gat,e_gat (givN x.1))])) (tabS_cons s_iModel (tabS_cons s_iRsv (tabS_cons s_delR (tabS_cons s_delH (tabS_cons (s_gat (givN x.1)) tabS_nil))))) mixed (kp:=kp_iEagerGive) (n:=x.1.rooms.length+1) func64 (c:=bodyOf F_iEagerGive) (by kernel_rfl) (body_iEagerGive x.1 x.2.1 x.2.2 hx) (name_ok (by kernel_rfl))
end Go.Mach.F
namespace Go.Mach.F
open Go Go.Mach Go.Proofs.Tryz
theorem rof_mem {rs:List Rm} {r:Rm} (h:r∈rs):¬ rof rs r.h < 0:=by
 rcases rof_of rs r.h with ⟨i,e,_⟩ | ⟨_,hn⟩
 ·rw [e]
  omega
 ·obtain ⟨j,hj,e⟩:=List.getElem_of_mem h
  refine absurd ?_ (hn j)
  rw [List.getElem?_eq_getElem hj,e]
  rfl
theorem gatH_mono (rs:List Rm) (y:Hd):∀ (n:Nat) (h:Hd) (a:List Hd × List Int),y∈a.1→y∈(gatH n rs h a).1
 | 0,_,_,hy=>hy
 | n+1,h,a,hy=>by
  unfold gatH
  cases hasH a.1 h with
  | true=>exact hy
  | false =>
   rw [cond_false]
   cases decide (rof rs h < 0) with
   | true=>exact List.mem_append_left _ hy
   | false =>
    rw [cond_false]
    exact fold_inv (fun b:List Hd × List Int=>y∈b.1) _ _ _ (List.mem_append_left _ hy) fun b x _ hb=>gatH_mono rs y n x b hb
theorem gatH_has (rs:List Rm) (n:Nat) (h:Hd) (a:List Hd × List Int):h∈(gatH (n+1) rs h a).1:=by
 by_cases h1:h∈a.1
 ·exact gatH_mono rs h (n+1) h a h1
 ·unfold gatH hasH
  rw [decide_eq_false h1,cond_false]
  cases decide (rof rs h < 0) with
  | true=>simp
  | false =>
   rw [cond_false]
   exact fold_inv (fun b:List Hd × List Int=>h∈b.1) _ _ _ (by simp) fun b x _ hb=>gatH_mono rs h n x b hb
/-- A room behind the reference's give. -/
def sgR (g:List Hd) (h:Hd) (w:Bool) (x:Rm):Option Rm:=bif decide (x.h=h)&&!w then some ⟨x.h,x.up,[],IntKind.i64.wrap (x.ep+1),0,false,0,[],[]⟩ else bif decide (x.h∈g) then none else some (bif w then { x with kids:=x.kids.filter (fun y=>!decide (y=h)) } else x)
def mv2 (f:Nat→Nat→T) (i:Nat):Nat→Nat→T:=setF i 10 T.hole (setF i 9 T.hole f)
theorem mv2_off {f:Nat→Nat→T} {j j' k:Nat} (h:j'≠j):mv2 f j j' k=f j' k:=by
 unfold mv2
 rw [setF_j h,setF_j h]
def sgF (g:List Hd) (h:Hd) (w:Bool) (l:List Rm):Nat→Nat→Nat→T
 | 0=>atL Rm.cs l
 | i+1=>match l[i]? with
  | some x=>bif decide (x.h=h)&&!w then sgF g h w l i else bif decide (x.h∈g) then sgF g h w l i else bif w then mv2 (sgF g h w l i) i else mvF (sgF g h w l i) i
  | none=>sgF g h w l i
theorem sgF_next (g:List Hd) (h:Hd) (w:Bool) {l:List Rm} {i:Nat} {x:Rm} (hx:l[i]?=some x):sgF g h w l (i+1)=bif decide (x.h=h)&&!w then sgF g h w l i else bif decide (x.h∈g) then sgF g h w l i else bif w then mv2 (sgF g h w l i) i else mvF (sgF g h w l i) i:=by
 simp only [sgF,hx]
theorem sgF_at (g:List Hd) (h:Hd) (w:Bool) (l:List Rm):∀ i j k,i≤j→sgF g h w l i j k=atL Rm.cs l j k
 | 0,_,_,_=>rfl
 | i+1,j,k,hj=>by
  have ih:=sgF_at g h w l i j k (by omega)
  cases hx:l[i]? with
  | none=>simp only [sgF,hx];exact ih
  | some x =>
   rw [sgF_next g h w hx]
   cases (decide (x.h=h)&&!w) with
   | true=>exact ih
   | false =>
    cases decide (x.h∈g) with
    | true=>exact ih
    | false =>
     cases w with
     | true=>simp only [cond_true,cond_false];rw [mv2_off (by omega)];exact ih
     | false=>simp only [cond_false];rw [mvF_off (by omega)];exact ih
def sgO (g:List Hd) (h:Hd) (w:Bool) (l:List Rm) (i:Nat):List Rm:=(l.take i).filterMap (sgR g h w)
theorem sgO_next (g:List Hd) (h:Hd) (w:Bool) {l:List Rm} {i:Nat} {x:Rm} (hx:l[i]?=some x):sgO g h w l (i+1)=sgO g h w l i ++ (sgR g h w x).toList:=by
 unfold sgO
 rw [List.take_add_one,hx,List.filterMap_append]
 cases hs:sgR g h w x <;> simp [hs]
theorem sgO_len (g:List Hd) (h:Hd) (w:Bool) (l:List Rm) (i:Nat):(sgO g h w l i).length≤l.length:=by
 unfold sgO
 refine Nat.le_trans (List.length_filterMap_le _ _) ?_
 rw [List.length_take]
 omega
theorem sg_eq (a g:List Hd) (h:Hd) (w:Bool):∀ (l:List Rm),(∀ x,x∈l→(x.h∈a↔x.h∈g)∧(x.h=h→x.h∈g))→l.filterMap (sgR g h w)=(l.filter (fun r=>!gvK ⟨a,w,h⟩ r)).map (givR h w)
 | [],_=>rfl
 | x :: l,hh=>by
  have ih:=sg_eq a g h w l fun y hy=>hh y (List.mem_cons_of_mem _ hy)
  obtain ⟨h1,h2⟩:=hh x List.mem_cons_self
  rw [List.filterMap_cons,List.filter_cons]
  by_cases e1:x.h=h
  ·have e2:=h2 e1
   have e3:=h1.2 e2
   cases w with
   | false =>
    have f1:sgR g h false x=some (givR h false x):=by
     unfold sgR givR
     simp [e1]
    have f2:gvK ⟨a,false,h⟩ x=false:=by
     unfold gvK
     simp [e1]
    rw [f1,f2,ih]
    rfl
   | true =>
    have f1:sgR g h true x=none:=by
     unfold sgR
     rw [decide_eq_true e2]
     simp
    have f2:gvK ⟨a,true,h⟩ x=true:=by
     unfold gvK hasH
     rw [decide_eq_true e3]
     rfl
    rw [f1,f2]
    exact ih
  ·by_cases e2:x.h∈g
   ·have e3:=h1.2 e2
    have f1:sgR g h w x=none:=by
     unfold sgR
     rw [decide_eq_true e2,decide_eq_false e1]
     rfl
    have f2:gvK ⟨a,w,h⟩ x=true:=by
     unfold gvK hasH
     rw [decide_eq_true e3,decide_eq_false e1]
     simp
    rw [f1,f2]
    exact ih
   ·have e3:x.h ∉ a:=fun e=>e2 (h1.1 e)
    have f1:sgR g h w x=some (givR h w x):=by
     unfold sgR givR
     rw [decide_eq_false e2,decide_eq_false e1]
     rfl
    have f2:gvK ⟨a,w,h⟩ x=false:=by
     unfold gvK hasH
     rw [decide_eq_false e3]
     rfl
    rw [f1,f2,ih]
    rfl
theorem cond_dup {R:Type} (a w:Bool) (A B:R):(bif a then (bif !w then A else B) else B)=bif a&&!w then A else B:=by cases a <;> cases w <;> rfl
theorem flt_next {α:Type} (p:α→Bool) {l:List α} {i:Nat} {x:α} (hx:l[i]?=some x):(l.take (i+1)).filter p=bif p x then (l.take i).filter p ++ [x] else (l.take i).filter p:=kpF_next p hx
theorem body_sEagerGive (m:Ml) (h:Hd) (w:Bool) (h0:ok_sEagerGive (m,h,w)):body prog (tabS [(i_sModel,e_sModel),(i_sRsv,e_sRsv),(i_sHasH,e_sHasH),(i_told,e_told (givN m))]) kp_sEagerGive (m.rooms.length+(allK m.rooms).length+1) F_sEagerGive (ea_sEagerGive (m,h,w))=some ([oR (f_sEagerGive (m,h,w)).1.cs,oT (.int .i64 (f_sEagerGive (m,h,w)).2)],[nul,nul,nul]):=by
 have hlm:=lm
 obtain ⟨⟨h1,h2⟩,h3,h4⟩:(ok_RmS m.rooms∧ok_LI m.log)∧(allK m.rooms).length < LM∧cntL (fun r=>r.tags.length) m.rooms≤LM:=⟨⟨h0.1,h0.2.1⟩,h0.2.2.1,h0.2.2.2⟩
 have hl:m.rooms.length≤LM:=h1.1
 have hlog:m.log.length≤LM:=h2
 have c0:ok_sModel m:=⟨h1,h2⟩
 have c1:ok_sRsv (m,h):=hl
 unfold ea_sEagerGive f_sEagerGive givM
 dsimp only
 rw [pre_sEagerGive]
 try simp only [eL_T,Ml.cs,Hd.cs]
 rw [entK_of (dm_sModel c0) (iv_sModel c0)]
 simp only [d_sModel,rsx0,ble_d,Nat.le_refl]
 rw [entK_of (dm_sRsv c1) (iv_sRsv c1)]
 simp only [d_sRsv,int_ne,int_eq]
 by_cases e:(rsv m h).2=0
 case neg =>
  simp only [e,decide_false,Bool.not_false,cond_true,cond_false]
  rfl
 simp only [e,decide_true,Bool.not_true,cond_true,cond_false]
 have hm0:MetOk m.rooms h []:=⟨List.nodup_nil,fun x hx=>by cases hx⟩
 have c2:ok_told (givN m) (m,h,[]):=⟨h1,h3,h4,⟨h,hm0,.inl rfl⟩,by simp [givN]⟩
 have r0:T.arr 2 0 (rowsT [])=T.arr 2 ([]:List Hd).length (atL Hd.cs []):=by rw [rowsT0 Hd.cs];rfl
 rw [r0,entK_of (dm_told c2) (iv_told c2)]
 have hgp:=gatH_inv m.rooms h (givN m) h ([],[]) 0 ⟨hm0,Nat.zero_le _,Nat.zero_le _⟩ (.inl rfl)
 have htl:=Nat.le_trans hgp.2.1 (sumL_le m.rooms hgp.1.nd)
 have htp:=toldS_inv m.rooms h (givN m) h [] hm0 (.inl rfl)
 have hbl:=htp.1.len
 obtain ⟨q1,q2⟩:=gat_told m.rooms (givN m) h [] [] [] fun _ _=>Iff.rfl
 have hin:h∈(gatH (givN m) m.rooms h ([],[])).1:=gatH_has m.rooms _ h _
 simp only [f_told]
 obtain ⟨a,ha⟩:∃ a,a=gatH (givN m) m.rooms h ([],[]):=⟨_,rfl⟩
 obtain ⟨b,hb⟩:∃ b,b=toldS (givN m) m.rooms h []:=⟨_,rfl⟩
 rw [← ha] at htl hin q1 q2 ⊢
 rw [← hb] at hbl q1 q2 ⊢
 rw [List.nil_append] at q1
 have heq:sgO b.2 h w m.rooms m.rooms.length=(m.rooms.filter (fun r=>!gvK ⟨a.1,w,h⟩ r)).map (givR h w):=by
  unfold sgO
  rw [List.take_length]
  refine sg_eq a.1 b.2 h w m.rooms fun x hx=>⟨q2 x.h (rof_mem hx),fun e=>?_⟩
  exact (q2 x.h (rof_mem hx)).1 (by rw [e];exact hin)
 rw [← heq,q1]
 rw [q1] at htl
 obtain ⟨l,hle⟩:∃ l,l=m.rooms:=⟨_,rfl⟩
 have hst:st_sEagerGive_1 (givN m) m h w m b m.rooms.length (atL Rm.cs m.rooms) 0 (rowsT []) 0=(fun i:Nat=>st_sEagerGive_1 (givN m) m h w m b m.rooms.length (sgF b.2 h w m.rooms i) (sgO b.2 h w m.rooms i).length (atL Rm.cs (sgO b.2 h w m.rooms i)) (i:Nat)) 0:=by
  rw [rowsT0 Rm.cs]
  rfl
 rw [hst,forLoop m.rooms.length (fun i:Nat=>st_sEagerGive_1 (givN m) m h w m b m.rooms.length (sgF b.2 h w m.rooms i) (sgO b.2 h w m.rooms i).length (atL Rm.cs (sgO b.2 h w m.rooms i)) (i:Nat)) (ex_sEagerGive_1_1 (givN m) m h w m b m.rooms.length (sgF b.2 h w m.rooms m.rooms.length) (sgO b.2 h w m.rooms m.rooms.length).length (atL Rm.cs (sgO b.2 h w m.rooms m.rooms.length)) m.rooms.length) 0 (fun i K hi=>?_) (fun K=>?_) _ (by omega)]
 ·have s1:(m.log.length+b.1.length) * 8≤70368744177664:=by omega
  have s2:m.log.length+b.1.length≤70368744177664:=by omega
  rw [post_sEagerGive_1_1]
  simp only [rsx0,ble_d,Nat.le_refl,s1,s2,cut_all,plain_I,appF_app,oR,oT,Ml.cs,eL_T,List.length_append]
  rfl
 ·have hx0:=List.getElem?_eq_getElem hi
  obtain ⟨x,hxe⟩:∃ x,x=m.rooms[i]:=⟨_,rfl⟩
  rw [← hxe] at hx0
  have hxm:=List.mem_of_getElem? hx0
  have hA:∀ k,sgF b.2 h w m.rooms i i k=(Rm.cs x).getD k .hole:=fun k=>by rw [sgF_at _ _ _ _ i i k (Nat.le_refl _),atL_of hx0]
  have c4:ok_sHasH (b.2,x.h):=by show b.2.length≤LM;omega
  have w1:IntKind.i64.wrap ((i:Int)+1)=((i+1:Nat):Int):=wrapS (by omega)
  have hol:=sgO_len b.2 h w m.rooms i
  have s1:((sgO b.2 h w m.rooms i).length+1) * 136≤70368744177664:=by omega
  have s2:(sgO b.2 h w m.rooms i).length+1≤70368744177664:=by omega
  rw [sgF_next _ _ _ hx0,sgO_next _ _ _ hx0]
  rw [round_sEagerGive_1]
  simp only [rsx0,hi,ble_d,Nat.le_refl,setF_k (rfl:Nat.beq 9 4=false),setF_k (rfl:Nat.beq 10 9=false),setF_k (rfl:Nat.beq 10 4=false),hA,Rm.cs,w1,hd_cond,s1,s2,cut_all]
  rw [entK_of (dm_sHasH c4) (iv_sHasH c4)]
  simp only [d_sHasH,hasH]
  rw [cond_dup]
  unfold sgR
  by_cases e0:(decide (x.h=h)&&!w)=true
  ·simp only [e0,cond_true,Option.toList_some,List.length_append,List.length_singleton]
   rw [← app1g]
   rfl
  ·have e0:(decide (x.h=h)&&!w)=false:=by simpa using e0
   simp only [e0,cond_false]
   by_cases e2:x.h∈b.2
   ·simp only [e2,decide_true,cond_true,Option.toList_none,List.append_nil]
   ·simp only [e2,decide_false,cond_false,Option.toList_some,List.length_append,List.length_singleton]
    cases w with
    | false =>
     simp only [cond_false]
     rw [← app1g]
     rfl
    | true =>
     simp only [cond_true]
     have hkl:=kids_len hxm
     have hi1:st_sEagerGive_2 (givN m) m h true m b m.rooms.length (sgF b.2 h true m.rooms i) (sgO b.2 h true m.rooms i).length (atL Rm.cs (sgO b.2 h true m.rooms i)) (i:Nat) 0 (rowsT []) 0=(fun j:Nat=>st_sEagerGive_2 (givN m) m h true m b m.rooms.length (sgF b.2 h true m.rooms i) (sgO b.2 h true m.rooms i).length (atL Rm.cs (sgO b.2 h true m.rooms i)) (i:Nat) ((x.kids.take j).filter (fun y=>!decide (y=h))).length (atL Hd.cs ((x.kids.take j).filter (fun y=>!decide (y=h)))) (j:Nat)) 0:=by
      rw [rowsT0 Hd.cs]
      rfl
     rw [hi1,forLoop x.kids.length (fun j:Nat=>st_sEagerGive_2 (givN m) m h true m b m.rooms.length (sgF b.2 h true m.rooms i) (sgO b.2 h true m.rooms i).length (atL Rm.cs (sgO b.2 h true m.rooms i)) (i:Nat) ((x.kids.take j).filter (fun y=>!decide (y=h))).length (atL Hd.cs ((x.kids.take j).filter (fun y=>!decide (y=h)))) (j:Nat)) (ex_sEagerGive_2_1 (givN m) m h true m b m.rooms.length (sgF b.2 h true m.rooms i) (sgO b.2 h true m.rooms i).length (atL Rm.cs (sgO b.2 h true m.rooms i)) (i:Nat) (x.kids.filter (fun y=>!decide (y=h))).length (atL Hd.cs (x.kids.filter (fun y=>!decide (y=h)))) x.kids.length) 3 (fun j K' hj=>?_) (fun K'=>?_) _ (by omega)]
     ·rw [post_sEagerGive_2_1]
      simp only [rsx0,hi,ble_d,Nat.le_refl,setF_k (rfl:Nat.beq 9 4=false),setF_k (rfl:Nat.beq 10 9=false),setF_k (rfl:Nat.beq 10 4=false),hA,Rm.cs,w1,s1,s2]
      rw [← app1g]
      rfl
     ·have hy0:=List.getElem?_eq_getElem hj
      obtain ⟨y,hye⟩:∃ y,y=x.kids[j]:=⟨_,rfl⟩
      rw [← hye] at hy0
      have w2:IntKind.i64.wrap ((j:Int)+1)=((j+1:Nat):Int):=wrapS (by omega)
      have hfl:((x.kids.take j).filter (fun y=>!decide (y=h))).length≤j:=kpF_len (fun y=>!decide (y=h)) x.kids (Nat.le_of_lt hj)
      have s3:(((x.kids.take j).filter (fun y=>!decide (y=h))).length+1) * 16≤70368744177664:=by omega
      have s4:((x.kids.take j).filter (fun y=>!decide (y=h))).length+1≤70368744177664:=by omega
      rw [round_sEagerGive_2]
      simp only [rsx0,hi,hj,ble_d,Nat.le_refl,hA,Rm.cs,atL_of hy0,Hd.cs,w2,hd_cond,s3,s4]
      rw [flt_next _ hy0]
      by_cases e5:y=h
      ·simp only [e5,decide_true,Bool.not_true,cond_false]
      ·simp only [e5,decide_false,Bool.not_false,cond_true,plainH,appF_app,List.length_append,List.length_singleton]
     ·rw [round_sEagerGive_2]
      simp only [rsx0,hA,Rm.cs,Nat.lt_irrefl,decide_false,cond_false,List.take_length]
 ·rw [round_sEagerGive_1]
  simp only [lt_d,Nat.lt_irrefl,decide_false,cond_false]
theorem s_sEagerGive:EntOk prog i_sEagerGive e_sEagerGive:=ent_ok ea_sEagerGive_inj fun x hx =>
 body_sound (φ:=(tabS [(i_sModel,e_sModel),(i_sRsv,e_sRsv),(i_sHasH,e_sHasH),(i_told,e_told (givN x.1))])) (tabS_cons s_sModel (tabS_cons s_sRsv (tabS_cons s_sHasH (tabS_cons (s_told (givN x.1)) tabS_nil)))) mixed (kp:=kp_sEagerGive) (n:=x.1.rooms.length+(allK x.1.rooms).length+1) func49 (c:=bodyOf F_sEagerGive) (by kernel_rfl) (body_sEagerGive x.1 x.2.1 x.2.2 hx) (name_ok (by kernel_rfl))
end Go.Mach.F
