/- Lemmas and definitions of the proof (Cb Cd Ce Vg Qg Bp Pe Dl Ue Cf). Conditions: none. -/
import Derived.Test.YtcfckhccphgafaaGreatZ7
set_option linter.all false
namespace Go.Mach.F
open Go Go.Mach Go.Proofs.Tryz Go.IntKind
--=set_option maxRecDepth 100000
def u8 (k:Int):UInt8:=UInt8.ofNat (IntKind.u8.wrap k).toNat
def anC (c:Int):An:=⟨c,⟨0,0⟩,⟨⟨0,0⟩,0,0⟩,[],0,0,0⟩
def lse (m:Ml) (r:Rm):Int:=bif r.cur then i64.wrap (m.c.size - r.bump) else 0
def stt (m:Ml) (h:Hd):An:=bif decide ((rsv m h).2=0) then { anC 0 with b:=[u8 (rmJ m (rsv m h).1).chunks,u8 (rmJ m (rsv m h).1).things.length,u8 (rmJ m (rsv m h).1).tags.length,u8 (lse m (rmJ m (rsv m h).1))] } else anC (rsv m h).2
def mkeA (h:Hd) (x:Ml × Int):Ml × An:=(x.1,bif decide (x.2=0) then { anC 0 with h:=h } else anC x.2)
def alcA (m:Ml) (h:Hd) (x:Ml × Int):Ml × An:=(x.1,bif decide (x.2=0) then { anC 0 with r:=⟨h,(rmJ m (rof m.rooms h)).ep,(rmJ m (rof m.rooms h)).things.length⟩ } else anC x.2)
def reaA (m:Ml) (x:List UInt8 × Int):Ml × An:=(m,{ anC x.2 with b:=x.1 })
def cdA (x:Ml × Int):Ml × An:=(x.1,anC x.2)
def ecl (m:Ml) (o:Op1) (a:An):Ml × An :=
 bif decide (o.kind=1) then mkeA a.h (emkM m o.h a.h (!decide (a.code=4)))
 else bif decide (o.kind=2) then alcA m o.h (alcM m o.h o.n o.m (decide (a.code=6)))
 else bif decide (o.kind=3) then reaA m (erd m o.r o.n o.m)
 else bif decide (o.kind=4) then cdA (wrtM m o.r o.n o.b)
 else bif decide (o.kind=5) then cdA (tagM m o.h o.n)
 else bif decide (o.kind=6) then cdA (givM m o.h (decide (o.kind=7)))
 else bif decide (o.kind=7) then cdA (givM m o.h (decide (o.kind=7)))
 else bif decide (o.kind=8) then (m,stt m o.h)
 else bif decide (o.kind=9) then (m,anC 0) else (m,anC 1)
def ok_iStt (x:Ml × Hd):Prop:=x.1.rooms.length≤LM
def ea_iStt (x:Ml × Hd):List Arg:=[aR x.1.cs,aR x.2.cs]
def f_iStt (x:Ml × Hd):An:=stt x.1 x.2
noncomputable def e_iStt:Ent:=ent [] ok_iStt ea_iStt (fun (x:An)=>erR 2 x.cs) f_iStt
theorem ea_iStt_inj (x y:Ml × Hd) (h:ea_iStt x=ea_iStt y):x=y:=by
 obtain ⟨m1,h1⟩:=x
 obtain ⟨m2,h2⟩:=y
 simp only [ea_iStt,List.cons.injEq,and_true,true_and] at h
 obtain ⟨e0,e1⟩:=h
 obtain rfl:=Ml.cs_ext (aR_inj e0)
 obtain rfl:=Hd.cs_ext (aR_inj e1)
 rfl
theorem dm_iStt {m:Ml} {h:Hd} (h0:ok_iStt (m,h)):dom ok_iStt ea_iStt [(wMl m),(wHd h)]=true:=dom_ea (ea:=ea_iStt) (x:=(m,h)) h0
theorem iv_iStt {m:Ml} {h:Hd} (h0:ok_iStt (m,h)):inv ok_iStt ea_iStt [(wMl m),(wHd h)]=(m,h):=inv_ea ea_iStt_inj (x:=(m,h)) h0
theorem d_iStt (m:Ml) (h:Hd):f_iStt (m,h)=stt m h:=rfl
def i_iStt:Nat:=65
noncomputable abbrev F_iStt:Func:=f65
def kp_iStt:List (Nat × List Nat):=[(0,[8,9,12,13,16,17,68,72,136,152,168,176,180,184]),(1,[8,9,16,17,20,24,68,72,136,152,168,176,180,184]),(2,[8,9,16,17,20,24,64,68,72,136,152,168,176,180,184]),(3,[16,17,68,72,136,152,168,176,180,184]),(4,[8,9,16,17,28,29,32,68,72,76,80,84,88,92,136,152,168,176,180,184]),(5,[8,9,16,17,28,29,32,68,72,76,80,84,88,92,100,136,152,168,176,180,184]),(6,[8,9,16,17,28,29,32,68,72,76,80,84,88,92,136,152,168,176,180,184]),(7,[16,17,68,72,136,152,168,176,180,184])]
theorem pre_iStt (m:Ml) (h:Hd) (n:Nat):body prog (tabS [(i_iRsv,e_iRsv)]) kp_iStt n F_iStt [aR m.cs,aR h.cs]=(entK ok_iRsv ea_iRsv (f_iRsv) [(wMl m),(wHd h)] fun (r1:Int × Int)=>bif r1.2 != 0 then some ([(true,[.tr true (T.int i64 r1.2),.tr true (T.int i64 0),.tr true (T.int i64 0),.tr true (T.int i64 0),.tr true (T.int i64 0),.tr true (T.int i64 0),.tr true (T.int i64 0),.tr true (.arr (1) (0) (fun x x_1=>T.hole)),.tr true (T.int i64 0),.tr true (T.int i64 0),.tr true (T.int i64 0)])],[(false,[]),(false,[])]) else gd (decide (0≤r1.1)&&(r1.1.toNat.blt m.2.length&&true))<|gd (T.isI i64 (atL Rm.cs m.2 r1.1.toNat 0)&&T.isI i64 (atL Rm.cs m.2 r1.1.toNat 1)&&T.isI i64 (atL Rm.cs m.2 r1.1.toNat 2)&&T.isI i64 (atL Rm.cs m.2 r1.1.toNat 3)&&((atL Rm.cs m.2 r1.1.toNat 4).isArr&&(atL Rm.cs m.2 r1.1.toNat 4).wd.beq 2)&&T.isI i64 (atL Rm.cs m.2 r1.1.toNat 5)&&T.isI i64 (atL Rm.cs m.2 r1.1.toNat 6)&&(atL Rm.cs m.2 r1.1.toNat 7).isB&&T.isI i64 (atL Rm.cs m.2 r1.1.toNat 8)&&((atL Rm.cs m.2 r1.1.toNat 9).isArr&&(atL Rm.cs m.2 r1.1.toNat 9).wd.beq 1)&&((atL Rm.cs m.2 r1.1.toNat 10).isArr&&(atL Rm.cs m.2 r1.1.toNat 10).wd.beq 1))<|bif (atL Rm.cs m.2 r1.1.toNat 7).toB then some ([(true,[.tr true (T.int i64 0),.tr true (T.int i64 0),.tr true (T.int i64 0),.tr true (T.int i64 0),.tr true (T.int i64 0),.tr true (T.int i64 0),.tr true (T.int i64 0),.tr true (.arr (1) (4) (rowsT [[T.int IntKind.u8 (IntKind.u8.wrap (atL Rm.cs m.2 r1.1.toNat 6).toI)],[T.int IntKind.u8 (IntKind.u8.wrap (↑(atL Rm.cs m.2 r1.1.toNat 9).ln:Int))],[T.int IntKind.u8 (IntKind.u8.wrap (↑(atL Rm.cs m.2 r1.1.toNat 10).ln:Int))],[T.int IntKind.u8 (IntKind.u8.wrap (i64.wrap (m.c.2 - (atL Rm.cs m.2 r1.1.toNat 8).toI)))]])),.tr true (T.int i64 0),.tr true (T.int i64 0),.tr true (T.int i64 0)])],[(false,[]),(false,[])]) else some ([(true,[.tr true (T.int i64 0),.tr true (T.int i64 0),.tr true (T.int i64 0),.tr true (T.int i64 0),.tr true (T.int i64 0),.tr true (T.int i64 0),.tr true (T.int i64 0),.tr true (.arr (1) (4) (rowsT [[T.int IntKind.u8 (IntKind.u8.wrap (atL Rm.cs m.2 r1.1.toNat 6).toI)],[T.int IntKind.u8 (IntKind.u8.wrap (↑(atL Rm.cs m.2 r1.1.toNat 9).ln:Int))],[T.int IntKind.u8 (IntKind.u8.wrap (↑(atL Rm.cs m.2 r1.1.toNat 10).ln:Int))],[T.int IntKind.u8 0]])),.tr true (T.int i64 0),.tr true (T.int i64 0),.tr true (T.int i64 0)])],[(false,[]),(false,[])])):=by kernel_rfl
def ok_sStt (x:Ml × Hd):Prop:=x.1.rooms.length≤LM
def ea_sStt (x:Ml × Hd):List Arg:=[aR x.1.cs,aR x.2.cs]
def f_sStt (x:Ml × Hd):An:=stt x.1 x.2
noncomputable def e_sStt:Ent:=ent [] ok_sStt ea_sStt (fun (x:An)=>erR 2 x.cs) f_sStt
theorem ea_sStt_inj (x y:Ml × Hd) (h:ea_sStt x=ea_sStt y):x=y:=by
 obtain ⟨m1,h1⟩:=x
 obtain ⟨m2,h2⟩:=y
 simp only [ea_sStt,List.cons.injEq,and_true,true_and] at h
 obtain ⟨e0,e1⟩:=h
 obtain rfl:=Ml.cs_ext (aR_inj e0)
 obtain rfl:=Hd.cs_ext (aR_inj e1)
 rfl
theorem dm_sStt {m:Ml} {h:Hd} (h0:ok_sStt (m,h)):dom ok_sStt ea_sStt [(wMl m),(wHd h)]=true:=dom_ea (ea:=ea_sStt) (x:=(m,h)) h0
theorem iv_sStt {m:Ml} {h:Hd} (h0:ok_sStt (m,h)):inv ok_sStt ea_sStt [(wMl m),(wHd h)]=(m,h):=inv_ea ea_sStt_inj (x:=(m,h)) h0
theorem d_sStt (m:Ml) (h:Hd):f_sStt (m,h)=stt m h:=rfl
def i_sStt:Nat:=50
noncomputable abbrev F_sStt:Func:=f50
def kp_sStt:List (Nat × List Nat):=[(0,[8,9,12,13,16,17,68,72,136,152,168,176,180,184]),(1,[8,9,16,17,20,24,68,72,136,152,168,176,180,184]),(2,[8,9,16,17,20,24,64,68,72,136,152,168,176,180,184]),(3,[16,17,68,72,136,152,168,176,180,184]),(4,[8,9,16,17,28,29,68,72,76,80,84,88,92,136,152,168,176,180,184]),(5,[8,9,16,17,28,29,32,68,72,76,80,84,88,92,136,152,168,176,180,184]),(6,[8,9,16,17,28,29,32,68,72,76,80,84,88,92,100,136,152,168,176,180,184]),(7,[8,9,16,17,28,29,32,68,72,76,80,84,88,92,136,152,168,176,180,184]),(8,[16,17,68,72,136,152,168,176,180,184])]
theorem pre_sStt (m:Ml) (h:Hd) (n:Nat):body prog (tabS [(i_sRsv,e_sRsv)]) kp_sStt n F_sStt [aR m.cs,aR h.cs]=(entK ok_sRsv ea_sRsv (f_sRsv) [(wMl m),(wHd h)] fun (r1:Int × Int)=>bif r1.2 != 0 then some ([(true,[.tr true (T.int i64 r1.2),.tr true (T.int i64 0),.tr true (T.int i64 0),.tr true (T.int i64 0),.tr true (T.int i64 0),.tr true (T.int i64 0),.tr true (T.int i64 0),.tr true (.arr (1) (0) (fun x x_1=>T.hole)),.tr true (T.int i64 0),.tr true (T.int i64 0),.tr true (T.int i64 0)])],[(false,[]),(false,[])]) else gd (decide (0≤r1.1)&&(r1.1.toNat.blt m.2.length&&true))<|gd (T.isI i64 (atL Rm.cs m.2 r1.1.toNat 0)&&T.isI i64 (atL Rm.cs m.2 r1.1.toNat 1)&&T.isI i64 (atL Rm.cs m.2 r1.1.toNat 2)&&T.isI i64 (atL Rm.cs m.2 r1.1.toNat 3)&&((atL Rm.cs m.2 r1.1.toNat 4).isArr&&(atL Rm.cs m.2 r1.1.toNat 4).wd.beq 2)&&T.isI i64 (atL Rm.cs m.2 r1.1.toNat 5)&&T.isI i64 (atL Rm.cs m.2 r1.1.toNat 6)&&(atL Rm.cs m.2 r1.1.toNat 7).isB&&T.isI i64 (atL Rm.cs m.2 r1.1.toNat 8)&&((atL Rm.cs m.2 r1.1.toNat 9).isArr&&(atL Rm.cs m.2 r1.1.toNat 9).wd.beq 1)&&((atL Rm.cs m.2 r1.1.toNat 10).isArr&&(atL Rm.cs m.2 r1.1.toNat 10).wd.beq 1))<|bif (atL Rm.cs m.2 r1.1.toNat 7).toB then some ([(true,[.tr true (T.int i64 0),.tr true (T.int i64 0),.tr true (T.int i64 0),.tr true (T.int i64 0),.tr true (T.int i64 0),.tr true (T.int i64 0),.tr true (T.int i64 0),.tr true (.arr (1) (4) (rowsT [[T.int IntKind.u8 (IntKind.u8.wrap (atL Rm.cs m.2 r1.1.toNat 6).toI)],[T.int IntKind.u8 (IntKind.u8.wrap (↑(atL Rm.cs m.2 r1.1.toNat 9).ln:Int))],[T.int IntKind.u8 (IntKind.u8.wrap (↑(atL Rm.cs m.2 r1.1.toNat 10).ln:Int))],[T.int IntKind.u8 (IntKind.u8.wrap (i64.wrap (m.c.2 - (atL Rm.cs m.2 r1.1.toNat 8).toI)))]])),.tr true (T.int i64 0),.tr true (T.int i64 0),.tr true (T.int i64 0)])],[(false,[]),(false,[])]) else some ([(true,[.tr true (T.int i64 0),.tr true (T.int i64 0),.tr true (T.int i64 0),.tr true (T.int i64 0),.tr true (T.int i64 0),.tr true (T.int i64 0),.tr true (T.int i64 0),.tr true (.arr (1) (4) (rowsT [[T.int IntKind.u8 (IntKind.u8.wrap (atL Rm.cs m.2 r1.1.toNat 6).toI)],[T.int IntKind.u8 (IntKind.u8.wrap (↑(atL Rm.cs m.2 r1.1.toNat 9).ln:Int))],[T.int IntKind.u8 (IntKind.u8.wrap (↑(atL Rm.cs m.2 r1.1.toNat 10).ln:Int))],[T.int IntKind.u8 0]])),.tr true (T.int i64 0),.tr true (T.int i64 0),.tr true (T.int i64 0)])],[(false,[]),(false,[])])):=by kernel_rfl
def i_sAl27:Nat:=45
noncomputable abbrev F_sAl27:Func:=f45
def kp_sAl27:List (Nat × List Nat):=[(0,[8,12,13,16,17,24,25,28,29,32,33,44,80,84,100,104,108,128,164,168]),(1,[16,17,24,25,28,29,32,33,36,44,80,84,100,104,108,128,164,168]),(2,[16,17,24,25,28,29,32,33,36,44,80,84,96,100,104,108,128,164,168]),(3,[24,25,28,29,32,33,44,80,84,100,104,108,128,164,168]),(4,[16,17,24,25,28,29,32,33,40,41,44,80,84,100,104,108,124,128,164,168]),(5,[24,25,28,29,32,33,44,80,84,100,104,108,128,164,168])]
noncomputable def e_sAl27:Ent:=inl [] prog (tabS [(i_sEagerAlloc,e_sEagerAlloc),(i_sRoomAt,e_sRoomAt)]) kp_sAl27 0 F_sAl27
theorem s_sAl27:EntOk prog i_sAl27 e_sAl27:=inl_ok (tabS_cons s_sEagerAlloc (tabS_cons s_sRoomAt tabS_nil)) mixed (c:=bodyOf F_sAl27) func45 (by kernel_rfl) (name_ok (by kernel_rfl))
def ok_iEcl (x:Ml × Op1 × An):Prop:=((ok_RmS x.1.rooms∧ok_LI x.1.log)∧ok_LB x.2.1.b)∧(allK x.1.rooms).length < LM∧cntL (fun r=>r.tags.length) x.1.rooms≤LM
def ea_iEcl (x:Ml × Op1 × An):List Arg:=[aR x.1.cs,aR x.2.1.cs,aR x.2.2.cs]
def f_iEcl (x:Ml × Op1 × An):Ml × An:=ecl x.1 x.2.1 x.2.2
noncomputable def e_iEcl:Ent:=ent [] ok_iEcl ea_iEcl (fun (x:Ml × An)=>([oR x.1.cs,oR x.2.cs],[nul,nul,nul])) f_iEcl
theorem ea_iEcl_inj (x y:Ml × Op1 × An) (h:ea_iEcl x=ea_iEcl y):x=y:=by
 obtain ⟨m1,o1,a1⟩:=x
 obtain ⟨m2,o2,a2⟩:=y
 simp only [ea_iEcl,List.cons.injEq,and_true,true_and] at h
 obtain ⟨e0,e1,e2⟩:=h
 obtain rfl:=Ml.cs_ext (aR_inj e0)
 obtain rfl:=Op1.cs_ext (aR_inj e1)
 obtain rfl:=An.cs_ext (aR_inj e2)
 rfl
theorem dm_iEcl {m:Ml} {o:Op1} {a:An} (h:ok_iEcl (m,o,a)):dom ok_iEcl ea_iEcl [(wMl m),(wOp1 o),(wAn a)]=true:=dom_ea (ea:=ea_iEcl) (x:=(m,o,a)) h
theorem iv_iEcl {m:Ml} {o:Op1} {a:An} (h:ok_iEcl (m,o,a)):inv ok_iEcl ea_iEcl [(wMl m),(wOp1 o),(wAn a)]=(m,o,a):=inv_ea ea_iEcl_inj (x:=(m,o,a)) h
theorem d_iEcl (m:Ml) (o:Op1) (a:An):f_iEcl (m,o,a)=ecl m o a:=rfl
def i_iEcl:Nat:=14
noncomputable abbrev F_iEcl:Func:=f14
def kp_iEcl:List (Nat × List Nat):=[(0,[12,13,16,17,20,21,24,25,28,29,32,33,36,37,48,52,76,112,116,160,204,208,368,400,404,424,448,452,476,504,508,540,552,556]),(1,[12,13,16,17,20,21,24,25,28,29,32,33,36,37,48,52,76,112,116,160,204,208,368,400,404,424,448,452,476,504,508,540,552,556]),(2,[12,13,16,17,20,21,24,25,28,29,32,33,36,37,48,52,60,76,112,116,160,204,208,368,400,404,424,448,452,476,504,508,540,552,556]),(3,[24,25,28,29,32,33,36,37,48,52,76,112,116,160,204,208,368,400,404,424,448,452,476,504,508,540,552,556]),(4,[12,13,16,17,20,21,24,25,28,29,32,33,36,37,48,52,60,68,76,112,116,160,204,208,368,400,404,424,448,452,476,504,508,540,552,556]),(5,[20,21,24,25,28,29,32,33,36,37,48,52,76,112,116,160,204,208,368,400,404,424,448,452,476,504,508,540,552,556]),(6,[20,21,24,25,28,29,32,33,36,37,48,52,76,112,116,136,160,204,208,368,400,404,424,448,452,476,504,508,540,552,556]),(7,[24,25,28,29,32,33,36,37,48,52,76,112,116,160,204,208,368,400,404,424,448,452,476,504,508,540,552,556]),(8,[12,13,16,17,20,21,24,25,28,29,32,33,36,37,48,52,60,76,112,116,152,160,204,208,368,400,404,424,448,452,476,504,508,540,552,556]),(9,[12,13,16,17,24,25,28,29,32,33,36,37,48,52,76,112,116,160,204,208,368,400,404,424,448,452,476,504,508,540,552,556]),(10,[12,13,16,17,24,25,28,29,32,33,36,37,48,52,76,112,116,160,204,208,228,368,400,404,424,448,452,476,504,508,540,552,556]),(11,[12,13,16,17,24,25,28,29,32,33,36,37,40,41,48,52,76,112,116,160,204,208,232,236,252,256,260,368,400,404,424,448,452,476,504,508,540,552,556]),(12,[24,25,28,29,32,33,36,37,48,52,76,112,116,160,204,208,368,400,404,424,448,452,476,504,508,540,552,556]),(13,[12,13,16,17,24,25,28,29,32,33,36,37,48,52,60,76,112,116,160,204,208,300,368,400,404,424,448,452,476,504,508,540,552,556]),(14,[24,25,28,29,32,33,36,37,48,52,76,112,116,160,204,208,368,400,404,424,448,452,476,504,508,540,552,556]),(15,[12,13,16,17,24,25,28,29,32,33,36,37,48,52,60,76,112,116,160,204,208,360,368,400,404,424,448,452,476,504,508,540,552,556]),(16,[24,25,28,29,32,33,36,37,48,52,76,112,116,160,204,208,368,400,404,424,448,452,476,504,508,540,552,556]),(17,[12,13,16,17,24,25,28,29,32,33,36,37,48,52,60,76,112,116,160,204,208,368,400,404,416,424,448,452,476,504,508,540,552,556]),(18,[24,25,28,29,32,33,36,37,48,52,76,112,116,160,204,208,368,400,404,424,448,452,476,504,508,540,552,556]),(19,[12,13,16,17,24,25,28,29,32,33,36,37,48,52,60,76,112,116,160,204,208,368,400,404,424,448,452,464,476,504,508,540,552,556]),(20,[12,13,16,17,24,25,28,29,32,33,36,37,48,52,60,76,112,116,160,204,208,368,400,404,424,448,452,464,476,504,508,540,552,556]),(21,[24,25,28,29,32,33,36,37,48,52,76,112,116,160,204,208,368,400,404,424,448,452,476,504,508,540,552,556]),(22,[12,13,16,17,24,25,28,29,32,33,36,37,48,52,60,76,112,116,160,204,208,368,400,404,424,448,452,476,504,508,520,540,552,556]),(23,[24,25,28,29,32,33,36,37,48,52,76,112,116,160,204,208,368,400,404,424,448,452,476,504,508,540,552,556]),(24,[24,25,28,29,32,33,36,37,48,52,76,112,116,160,204,208,368,400,404,424,448,452,476,504,508,540,544,552,556]),(25,[24,25,28,29,32,33,36,37,48,52,76,112,116,160,204,208,368,400,404,424,448,452,476,504,508,540,552,556])]
noncomputable abbrev tb39:Sems:=tabS [(i_iModel,e_iModel),(i_iEmk,e_iEmk),(i_iEagerAlloc,e_iEagerAlloc),(i_iRoomOf,e_iRoomOf),(i_iEagerRead,e_iEagerRead),(i_iEagerWrite,e_iEagerWrite),(i_iEagerTag,e_iEagerTag),(i_iEagerGive,e_iEagerGive),(i_iStt,e_iStt)]
theorem pre_iEcl (m:Ml) (o:Op1) (a:An) (n:Nat):body prog tb39 kp_iEcl n F_iEcl [aR m.cs,aR o.cs,aR a.cs]=(entK ok_iModel ea_iModel (f_iModel) [(wMl m)] fun (r1:Ml)=>gl r1.2.length<|gl r1.3.length<|bif o.1 == 1 then entK ok_iEmk ea_iEmk (f_iEmk) [(wMl m),(wHd o.h),(wHd a.h),(0,false,[C.tr false (T.bool (a.1 != 4))])] fun (r2:Ml × Int)=>gl r2.fst.2.length<|gl r2.fst.3.length<|bif r2.2 == 0 then gl r2.fst.2.length<|gl r2.fst.3.length<|gl r2.fst.2.length<|gl r2.fst.3.length<|some ([(oR (Ml.cs r2.fst)),(true,[.tr true (T.int i64 r2.2),.tr true (T.int i64 a.h.1),.tr true (T.int i64 a.h.2),.tr true (T.int i64 0),.tr true (T.int i64 0),.tr true (T.int i64 0),.tr true (T.int i64 0),.tr true (.arr (1) (0) (fun x x_1=>T.hole)),.tr true (T.int i64 0),.tr true (T.int i64 0),.tr true (T.int i64 0)])],[(false,[]),(false,[]),(false,[])]) else gl r2.fst.2.length<|gl r2.fst.3.length<|gl r2.fst.2.length<|gl r2.fst.3.length<|some ([(oR (Ml.cs r2.fst)),(true,[.tr true (T.int i64 r2.2),.tr true (T.int i64 0),.tr true (T.int i64 0),.tr true (T.int i64 0),.tr true (T.int i64 0),.tr true (T.int i64 0),.tr true (T.int i64 0),.tr true (.arr (1) (0) (fun x x_1=>T.hole)),.tr true (T.int i64 0),.tr true (T.int i64 0),.tr true (T.int i64 0)])],[(false,[]),(false,[]),(false,[])]) else bif o.1 == 2 then entK ok_iEagerAlloc ea_iEagerAlloc (f_iEagerAlloc) [(wMl m),(wHd o.h),(0,false,[C.tr false (T.int i64 o.4)]),(0,false,[C.tr false (T.int i64 o.5)]),(0,false,[C.tr false (T.bool (a.1 == 6))])] fun (r3:Ml × Int)=>gl r3.fst.2.length<|gl r3.fst.3.length<|bif r3.2 == 0 then entK ok_iRoomOf ea_iRoomOf (f_iRoomOf) [(wMl m),(wHd o.h)] fun (r4:Int)=>gd (decide (0≤r4)&&(r4.toNat.blt m.2.length&&true))<|gd (T.isI i64 (atL Rm.cs m.2 r4.toNat 0)&&T.isI i64 (atL Rm.cs m.2 r4.toNat 1)&&T.isI i64 (atL Rm.cs m.2 r4.toNat 2)&&T.isI i64 (atL Rm.cs m.2 r4.toNat 3)&&((atL Rm.cs m.2 r4.toNat 4).isArr&&(atL Rm.cs m.2 r4.toNat 4).wd.beq 2)&&T.isI i64 (atL Rm.cs m.2 r4.toNat 5)&&T.isI i64 (atL Rm.cs m.2 r4.toNat 6)&&(atL Rm.cs m.2 r4.toNat 7).isB&&T.isI i64 (atL Rm.cs m.2 r4.toNat 8)&&((atL Rm.cs m.2 r4.toNat 9).isArr&&(atL Rm.cs m.2 r4.toNat 9).wd.beq 1)&&((atL Rm.cs m.2 r4.toNat 10).isArr&&(atL Rm.cs m.2 r4.toNat 10).wd.beq 1))<|gl r3.fst.2.length<|gl r3.fst.3.length<|gl r3.fst.2.length<|gl r3.fst.3.length<|some ([(oR (Ml.cs r3.fst)),(true,[.tr true (T.int i64 r3.2),.tr true (T.int i64 0),.tr true (T.int i64 0),.tr true (T.int i64 o.h.1),.tr true (T.int i64 o.h.2),.tr true (T.int i64 (atL Rm.cs m.2 r4.toNat 5).toI),.tr true (T.int i64 (↑(atL Rm.cs m.2 r4.toNat 9).ln:Int)),.tr true (.arr (1) (0) (fun x x_1=>T.hole)),.tr true (T.int i64 0),.tr true (T.int i64 0),.tr true (T.int i64 0)])],[(false,[]),(false,[]),(false,[])]) else gl r3.fst.2.length<|gl r3.fst.3.length<|gl r3.fst.2.length<|gl r3.fst.3.length<|some ([(oR (Ml.cs r3.fst)),(true,[.tr true (T.int i64 r3.2),.tr true (T.int i64 0),.tr true (T.int i64 0),.tr true (T.int i64 0),.tr true (T.int i64 0),.tr true (T.int i64 0),.tr true (T.int i64 0),.tr true (.arr (1) (0) (fun x x_1=>T.hole)),.tr true (T.int i64 0),.tr true (T.int i64 0),.tr true (T.int i64 0)])],[(false,[]),(false,[]),(false,[])]) else bif o.1 == 3 then entK ok_iEagerRead ea_iEagerRead (f_iEagerRead) [(wMl m),(wRf o.r),(0,false,[C.tr false (T.int i64 o.4)]),(0,false,[C.tr false (T.int i64 o.5)])] fun (r5:List UInt8 × Int)=>gl r5.1.length<|gl r1.2.length<|gl r1.3.length<|gl r5.1.length<|gl r1.2.length<|gl r1.3.length<|gl r5.1.length<|some ([(oR (Ml.cs r1)),(true,[.tr true (T.int i64 r5.2),.tr true (T.int i64 0),.tr true (T.int i64 0),.tr true (T.int i64 0),.tr true (T.int i64 0),.tr true (T.int i64 0),.tr true (T.int i64 0),.tr true (.arr (1) (r5.1.length) (atL rowB r5.1)),.tr true (T.int i64 0),.tr true (T.int i64 0),.tr true (T.int i64 0)])],[(false,[]),(false,[]),(false,[])]) else bif o.1 == 4 then entK ok_iEagerWrite ea_iEagerWrite (f_iEagerWrite) [(wMl m),(wRf o.r),(0,false,[C.tr false (T.int i64 o.4)]),(0,false,[C.tr false (eL 1 rowB o.6)])] fun (r6:Ml × Int)=>gl r6.fst.2.length<|gl r6.fst.3.length<|gl r6.fst.2.length<|gl r6.fst.3.length<|gl r6.fst.2.length<|gl r6.fst.3.length<|some ([(oR (Ml.cs r6.fst)),(true,[.tr true (T.int i64 r6.2),.tr true (T.int i64 0),.tr true (T.int i64 0),.tr true (T.int i64 0),.tr true (T.int i64 0),.tr true (T.int i64 0),.tr true (T.int i64 0),.tr true (.arr (1) (0) (fun x x_1=>T.hole)),.tr true (T.int i64 0),.tr true (T.int i64 0),.tr true (T.int i64 0)])],[(false,[]),(false,[]),(false,[])]) else bif o.1 == 5 then entK ok_iEagerTag ea_iEagerTag (f_iEagerTag) [(wMl m),(wHd o.h),(0,false,[C.tr false (T.int i64 o.4)])] fun (r7:Ml × Int)=>gl r7.fst.2.length<|gl r7.fst.3.length<|gl r7.fst.2.length<|gl r7.fst.3.length<|gl r7.fst.2.length<|gl r7.fst.3.length<|some ([(oR (Ml.cs r7.fst)),(true,[.tr true (T.int i64 r7.2),.tr true (T.int i64 0),.tr true (T.int i64 0),.tr true (T.int i64 0),.tr true (T.int i64 0),.tr true (T.int i64 0),.tr true (T.int i64 0),.tr true (.arr (1) (0) (fun x x_1=>T.hole)),.tr true (T.int i64 0),.tr true (T.int i64 0),.tr true (T.int i64 0)])],[(false,[]),(false,[]),(false,[])]) else bif o.1 == 6 then entK ok_iEagerGive ea_iEagerGive (f_iEagerGive) [(wMl m),(wHd o.h),(0,false,[C.tr false (T.bool (o.1 == 7))])] fun (r8:Ml × Int)=>gl r8.fst.2.length<|gl r8.fst.3.length<|gl r8.fst.2.length<|gl r8.fst.3.length<|gl r8.fst.2.length<|gl r8.fst.3.length<|some ([(oR (Ml.cs r8.fst)),(true,[.tr true (T.int i64 r8.2),.tr true (T.int i64 0),.tr true (T.int i64 0),.tr true (T.int i64 0),.tr true (T.int i64 0),.tr true (T.int i64 0),.tr true (T.int i64 0),.tr true (.arr (1) (0) (fun x x_1=>T.hole)),.tr true (T.int i64 0),.tr true (T.int i64 0),.tr true (T.int i64 0)])],[(false,[]),(false,[]),(false,[])]) else bif o.1 == 7 then entK ok_iEagerGive ea_iEagerGive (f_iEagerGive) [(wMl m),(wHd o.h),(0,false,[C.tr false (T.bool (o.1 == 7))])] fun (r9:Ml × Int)=>gl r9.fst.2.length<|gl r9.fst.3.length<|gl r9.fst.2.length<|gl r9.fst.3.length<|gl r9.fst.2.length<|gl r9.fst.3.length<|some ([(oR (Ml.cs r9.fst)),(true,[.tr true (T.int i64 r9.2),.tr true (T.int i64 0),.tr true (T.int i64 0),.tr true (T.int i64 0),.tr true (T.int i64 0),.tr true (T.int i64 0),.tr true (T.int i64 0),.tr true (.arr (1) (0) (fun x x_1=>T.hole)),.tr true (T.int i64 0),.tr true (T.int i64 0),.tr true (T.int i64 0)])],[(false,[]),(false,[]),(false,[])]) else bif o.1 == 8 then entK ok_iStt ea_iStt (f_iStt) [(wMl m),(wHd o.h)] fun (r10:An)=>gl r10.4.length<|gl r1.2.length<|gl r1.3.length<|gl r10.4.length<|gl r1.2.length<|gl r1.3.length<|gl r10.4.length<|some ([(oR (Ml.cs r1)),(oR (An.cs r10))],[(false,[]),(false,[]),(false,[])]) else bif o.1 == 9 then gl r1.2.length<|gl r1.3.length<|gl r1.2.length<|gl r1.3.length<|some ([(oR (Ml.cs r1)),(true,[.tr true (T.int i64 0),.tr true (T.int i64 0),.tr true (T.int i64 0),.tr true (T.int i64 0),.tr true (T.int i64 0),.tr true (T.int i64 0),.tr true (T.int i64 0),.tr true (.arr (1) (0) (fun x x_1=>T.hole)),.tr true (T.int i64 0),.tr true (T.int i64 0),.tr true (T.int i64 0)])],[(false,[]),(false,[]),(false,[])]) else gl r1.2.length<|gl r1.3.length<|gl r1.2.length<|gl r1.3.length<|some ([(oR (Ml.cs r1)),(true,[.tr true (T.int i64 1),.tr true (T.int i64 0),.tr true (T.int i64 0),.tr true (T.int i64 0),.tr true (T.int i64 0),.tr true (T.int i64 0),.tr true (T.int i64 0),.tr true (.arr (1) (0) (fun x x_1=>T.hole)),.tr true (T.int i64 0),.tr true (T.int i64 0),.tr true (T.int i64 0)])],[(false,[]),(false,[]),(false,[])])):=by kernel_rfl
def ok_sEcl (x:Ml × Op1 × An):Prop:=((ok_RmS x.1.rooms∧ok_LI x.1.log)∧ok_LB x.2.1.b)∧(allK x.1.rooms).length < LM∧cntL (fun r=>r.tags.length) x.1.rooms≤LM∧ok_RmS (alcM x.1 x.2.1.h x.2.1.n x.2.1.m (decide (x.2.2.code=6))).1.rooms
def ea_sEcl (x:Ml × Op1 × An):List Arg:=[aR x.1.cs,aR x.2.1.cs,aR x.2.2.cs]
def f_sEcl (x:Ml × Op1 × An):Ml × An:=ecl x.1 x.2.1 x.2.2
noncomputable def e_sEcl:Ent:=ent [] ok_sEcl ea_sEcl (fun (x:Ml × An)=>([oR x.1.cs,oR x.2.cs],[nul,nul,nul])) f_sEcl
theorem ea_sEcl_inj (x y:Ml × Op1 × An) (h:ea_sEcl x=ea_sEcl y):x=y:=by
 obtain ⟨m1,o1,a1⟩:=x
 obtain ⟨m2,o2,a2⟩:=y
 simp only [ea_sEcl,List.cons.injEq,and_true,true_and] at h
 obtain ⟨e0,e1,e2⟩:=h
 obtain rfl:=Ml.cs_ext (aR_inj e0)
 obtain rfl:=Op1.cs_ext (aR_inj e1)
 obtain rfl:=An.cs_ext (aR_inj e2)
 rfl
theorem dm_sEcl {m:Ml} {o:Op1} {a:An} (h:ok_sEcl (m,o,a)):dom ok_sEcl ea_sEcl [(wMl m),(wOp1 o),(wAn a)]=true:=dom_ea (ea:=ea_sEcl) (x:=(m,o,a)) h
theorem iv_sEcl {m:Ml} {o:Op1} {a:An} (h:ok_sEcl (m,o,a)):inv ok_sEcl ea_sEcl [(wMl m),(wOp1 o),(wAn a)]=(m,o,a):=inv_ea ea_sEcl_inj (x:=(m,o,a)) h
theorem d_sEcl (m:Ml) (o:Op1) (a:An):f_sEcl (m,o,a)=ecl m o a:=rfl
def i_sEcl:Nat:=10
noncomputable abbrev F_sEcl:Func:=f10
def kp_sEcl:List (Nat × List Nat):=[(0,[12,13,16,17,20,21,24,25,28,29,32,33,40,52,72,108,112,128,136,140,172,176,180,236,240,244,248,260,292,296,312,336,340,360,388,392,408,424,436,440,444]),(1,[12,13,16,17,20,21,24,25,28,29,32,33,40,52,72,108,112,128,136,140,172,176,180,236,240,244,248,260,292,296,312,336,340,360,388,392,408,424,436,440,444]),(2,[12,13,16,17,20,21,24,25,28,29,32,33,36,40,52,72,108,112,128,136,140,172,176,180,236,240,244,248,260,292,296,312,336,340,360,388,392,408,424,436,440,444]),(3,[12,13,16,17,20,21,24,25,28,29,32,33,36,40,52,60,72,108,112,128,136,140,172,176,180,236,240,244,248,260,292,296,312,336,340,360,388,392,408,424,436,440,444]),(4,[12,13,16,17,20,21,24,25,28,29,32,33,36,40,52,60,64,72,108,112,128,136,140,172,176,180,236,240,244,248,260,292,296,312,336,340,360,388,392,408,424,436,440,444]),(5,[20,21,24,25,28,29,32,33,36,40,52,72,108,112,128,136,140,172,176,180,236,240,244,248,260,292,296,312,336,340,360,388,392,408,424,436,440,444]),(6,[20,21,24,25,28,29,32,33,36,40,52,72,108,112,124,128,136,140,172,176,180,236,240,244,248,260,292,296,312,336,340,360,388,392,408,424,436,440,444]),(7,[24,25,28,29,32,33,40,52,72,108,112,128,136,140,172,176,180,236,240,244,248,260,292,296,312,336,340,360,388,392,408,424,436,440,444]),(8,[12,13,16,17,20,21,24,25,28,29,32,33,36,40,52,60,72,108,112,128,136,140,144,172,176,180,236,240,244,248,260,292,296,312,336,340,360,388,392,408,424,436,440,444]),(9,[24,25,28,29,32,33,40,52,72,108,112,128,136,140,172,176,180,236,240,244,248,260,292,296,312,336,340,360,388,392,408,424,436,440,444]),(10,[12,13,16,17,24,25,28,29,32,33,36,40,52,60,72,108,112,128,136,140,172,176,180,184,236,240,244,248,260,292,296,312,336,340,360,388,392,408,424,436,440,444]),(11,[24,25,28,29,32,33,40,44,52,72,108,112,128,136,140,172,176,180,236,240,244,248,260,292,296,312,336,340,360,388,392,408,424,436,440,444]),(12,[24,25,28,29,32,33,40,52,72,108,112,128,136,140,172,176,180,236,240,244,248,260,292,296,312,336,340,360,388,392,408,424,436,440,444]),(13,[12,13,16,17,24,25,28,29,32,33,36,40,52,60,72,108,112,128,136,140,172,176,180,236,240,244,248,252,260,292,296,312,336,340,360,388,392,408,424,436,440,444]),(14,[24,25,28,29,32,33,36,40,52,72,108,112,128,136,140,172,176,180,236,240,244,248,260,292,296,312,336,340,360,388,392,408,424,436,440,444]),(15,[12,13,16,17,24,25,28,29,32,33,36,40,52,60,72,108,112,128,136,140,172,176,180,236,240,244,248,260,292,296,304,312,336,340,360,388,392,408,424,436,440,444]),(16,[24,25,28,29,32,33,36,40,52,72,108,112,128,136,140,172,176,180,236,240,244,248,260,292,296,312,336,340,360,388,392,408,424,436,440,444]),(17,[12,13,16,17,24,25,28,29,32,33,36,40,52,60,72,108,112,128,136,140,172,176,180,236,240,244,248,260,292,296,312,336,340,348,360,388,392,408,424,436,440,444]),(18,[12,13,16,17,24,25,28,29,32,33,36,40,52,60,72,108,112,128,136,140,172,176,180,236,240,244,248,260,292,296,312,336,340,348,360,388,392,408,424,436,440,444]),(19,[24,25,28,29,32,33,36,40,52,72,108,112,128,136,140,172,176,180,236,240,244,248,260,292,296,312,336,340,360,388,392,408,424,436,440,444]),(20,[12,13,16,17,24,25,28,29,32,33,36,40,52,60,72,108,112,128,136,140,172,176,180,236,240,244,248,260,292,296,312,336,340,360,388,392,400,408,424,436,440,444]),(21,[24,25,28,29,32,33,40,52,72,108,112,128,136,140,172,176,180,236,240,244,248,260,292,296,312,336,340,360,388,392,408,424,436,440,444]),(22,[24,25,28,29,32,33,36,40,52,72,108,112,128,136,140,172,176,180,236,240,244,248,260,292,296,312,336,340,360,388,392,408,424,428,436,440,444]),(23,[24,25,28,29,32,33,36,40,52,72,108,112,128,136,140,172,176,180,236,240,244,248,260,292,296,312,336,340,360,388,392,408,424,436,440,444]),(24,[24,25,28,29,32,33,40,52,72,108,112,128,136,140,172,176,180,236,240,244,248,260,292,296,312,336,340,360,388,392,408,424,436,440,444])]
noncomputable abbrev tb40:Sems:=tabS [(i_sModel,e_sModel),(i_sEmk,e_sEmk),(i_sAl27,e_sAl27),(i_sEagerRead,e_sEagerRead),(i_sEagerWrite,e_sEagerWrite),(i_sEagerTag,e_sEagerTag),(i_sEagerGive,e_sEagerGive),(i_sStt,e_sStt)]
theorem pre_sEcl (m:Ml) (o:Op1) (a:An) (n:Nat):body prog tb40 kp_sEcl n F_sEcl [aR m.cs,aR o.cs,aR a.cs]=(entK ok_sModel ea_sModel (f_sModel) [(wMl m)] fun (r1:Ml)=>gl r1.2.length<|gl r1.3.length<|bif o.1 == 1 then entK ok_sEmk ea_sEmk (f_sEmk) [(wMl m),(wHd o.h),(wHd a.h),(0,false,[C.tr false (T.bool (a.1 != 4))])] fun (r2:Ml × Int)=>gl r2.fst.2.length<|gl r2.fst.3.length<|bif r2.2 == 0 then gl r2.fst.2.length<|gl r2.fst.3.length<|gl r2.fst.2.length<|gl r2.fst.3.length<|some ([(oR (Ml.cs r2.fst)),(true,[.tr true (T.int i64 0),.tr true (T.int i64 a.h.1),.tr true (T.int i64 a.h.2),.tr true (T.int i64 0),.tr true (T.int i64 0),.tr true (T.int i64 0),.tr true (T.int i64 0),.tr true (.arr (1) (0) (fun x x_1=>T.hole)),.tr true (T.int i64 0),.tr true (T.int i64 0),.tr true (T.int i64 0)])],[(false,[]),(false,[]),(false,[])]) else gl r2.fst.2.length<|gl r2.fst.3.length<|gl r2.fst.2.length<|gl r2.fst.3.length<|some ([(oR (Ml.cs r2.fst)),(true,[.tr true (T.int i64 r2.2),.tr true (T.int i64 0),.tr true (T.int i64 0),.tr true (T.int i64 0),.tr true (T.int i64 0),.tr true (T.int i64 0),.tr true (T.int i64 0),.tr true (.arr (1) (0) (fun x x_1=>T.hole)),.tr true (T.int i64 0),.tr true (T.int i64 0),.tr true (T.int i64 0)])],[(false,[]),(false,[]),(false,[])]) else bif o.1 == 2 then entK ok_sEagerAlloc ea_sEagerAlloc (f_sEagerAlloc) [(wMl m),(wHd o.h),(0,false,[C.tr false (T.int i64 o.4)]),(0,false,[C.tr false (T.int i64 o.5)]),(0,false,[C.tr false (T.bool (a.1 == 6))])] fun (r3:Ml × Int)=>gl r3.fst.2.length<|gl r3.fst.3.length<|bif r3.2 != 0 then gl r3.fst.2.length<|gl r3.fst.3.length<|gl r3.fst.2.length<|gl r3.fst.3.length<|gl r3.fst.2.length<|gl r3.fst.3.length<|gl r3.fst.2.length<|gl r3.fst.3.length<|some ([(oR (Ml.cs r3.fst)),(true,[.tr true (T.int i64 r3.2),.tr true (T.int i64 0),.tr true (T.int i64 0),.tr true (T.int i64 0),.tr true (T.int i64 0),.tr true (T.int i64 0),.tr true (T.int i64 0),.tr true (.arr (1) (0) (fun x x_1=>T.hole)),.tr true (T.int i64 0),.tr true (T.int i64 0),.tr true (T.int i64 0)])],[(false,[]),(false,[]),(false,[])]) else gd ((0+r3.fst.2.length).ble r3.fst.2.length)<|gd ((0+r3.fst.3.length).ble r3.fst.3.length)<|entK ok_sRoomAt ea_sRoomAt (f_sRoomAt) [(0,true,[C.tr false (T.int i64 r3.fst.c.1),C.tr false (T.int i64 r3.fst.c.2),C.tr false (T.int i64 r3.fst.c.3),C.tr false (T.int i64 r3.fst.c.4),C.tr false (T.int i64 r3.fst.c.5),C.tr false (T.int i64 r3.fst.c.6),C.tr false (T.arr 11 r3.fst.2.length (cutT 0 r3.fst.2.length (eL 11 Rm.cs r3.fst.2).fn)),C.tr false (T.arr 1 r3.fst.3.length (cutT 0 r3.fst.3.length (eL 1 rowI r3.fst.3).fn))]),(wHd o.h)] fun (r4:Rm)=>gl r4.3.length<|gl r4.8.length<|gl r4.9.length<|gl r3.fst.2.length<|gl r3.fst.3.length<|gl r3.fst.2.length<|gl r3.fst.3.length<|gl r3.fst.2.length<|gl r3.fst.3.length<|gl r3.fst.2.length<|gl r3.fst.3.length<|some ([(oR (Ml.cs r3.fst)),(true,[.tr true (T.int i64 0),.tr true (T.int i64 0),.tr true (T.int i64 0),.tr true (T.int i64 o.h.1),.tr true (T.int i64 o.h.2),.tr true (T.int i64 r4.4),.tr true (T.int i64 (i64.wrap ((↑r4.8.length:Int) - 1))),.tr true (.arr (1) (0) (fun x x_1=>T.hole)),.tr true (T.int i64 0),.tr true (T.int i64 0),.tr true (T.int i64 0)])],[(false,[]),(false,[]),(false,[])]) else bif o.1 == 3 then entK ok_sEagerRead ea_sEagerRead (f_sEagerRead) [(wMl m),(wRf o.r),(0,false,[C.tr false (T.int i64 o.4)]),(0,false,[C.tr false (T.int i64 o.5)])] fun (r5:List UInt8 × Int)=>gl r5.1.length<|gl r5.1.length<|gl r1.2.length<|gl r1.3.length<|gl r5.1.length<|gl r1.2.length<|gl r1.3.length<|gl r5.1.length<|some ([(oR (Ml.cs r1)),(true,[.tr true (T.int i64 r5.2),.tr true (T.int i64 0),.tr true (T.int i64 0),.tr true (T.int i64 0),.tr true (T.int i64 0),.tr true (T.int i64 0),.tr true (T.int i64 0),.tr true (.arr (1) (r5.1.length) (atL rowB r5.1)),.tr true (T.int i64 0),.tr true (T.int i64 0),.tr true (T.int i64 0)])],[(false,[]),(false,[]),(false,[])]) else bif o.1 == 4 then entK ok_sEagerWrite ea_sEagerWrite (f_sEagerWrite) [(wMl m),(wRf o.r),(0,false,[C.tr false (T.int i64 o.4)]),(0,false,[C.tr false (eL 1 rowB o.6)])] fun (r6:Ml × Int)=>gl r6.fst.2.length<|gl r6.fst.3.length<|gl r6.fst.2.length<|gl r6.fst.3.length<|gl r6.fst.2.length<|gl r6.fst.3.length<|some ([(oR (Ml.cs r6.fst)),(true,[.tr true (T.int i64 r6.2),.tr true (T.int i64 0),.tr true (T.int i64 0),.tr true (T.int i64 0),.tr true (T.int i64 0),.tr true (T.int i64 0),.tr true (T.int i64 0),.tr true (.arr (1) (0) (fun x x_1=>T.hole)),.tr true (T.int i64 0),.tr true (T.int i64 0),.tr true (T.int i64 0)])],[(false,[]),(false,[]),(false,[])]) else bif o.1 == 5 then entK ok_sEagerTag ea_sEagerTag (f_sEagerTag) [(wMl m),(wHd o.h),(0,false,[C.tr false (T.int i64 o.4)])] fun (r7:Ml × Int)=>gl r7.fst.2.length<|gl r7.fst.3.length<|gl r7.fst.2.length<|gl r7.fst.3.length<|gl r7.fst.2.length<|gl r7.fst.3.length<|some ([(oR (Ml.cs r7.fst)),(true,[.tr true (T.int i64 r7.2),.tr true (T.int i64 0),.tr true (T.int i64 0),.tr true (T.int i64 0),.tr true (T.int i64 0),.tr true (T.int i64 0),.tr true (T.int i64 0),.tr true (.arr (1) (0) (fun x x_1=>T.hole)),.tr true (T.int i64 0),.tr true (T.int i64 0),.tr true (T.int i64 0)])],[(false,[]),(false,[]),(false,[])]) else bif o.1 == 6 then entK ok_sEagerGive ea_sEagerGive (f_sEagerGive) [(wMl m),(wHd o.h),(0,false,[C.tr false (T.bool (o.1 == 7))])] fun (r8:Ml × Int)=>gl r8.fst.2.length<|gl r8.fst.3.length<|gl r8.fst.2.length<|gl r8.fst.3.length<|gl r8.fst.2.length<|gl r8.fst.3.length<|some ([(oR (Ml.cs r8.fst)),(true,[.tr true (T.int i64 r8.2),.tr true (T.int i64 0),.tr true (T.int i64 0),.tr true (T.int i64 0),.tr true (T.int i64 0),.tr true (T.int i64 0),.tr true (T.int i64 0),.tr true (.arr (1) (0) (fun x x_1=>T.hole)),.tr true (T.int i64 0),.tr true (T.int i64 0),.tr true (T.int i64 0)])],[(false,[]),(false,[]),(false,[])]) else bif o.1 == 7 then entK ok_sEagerGive ea_sEagerGive (f_sEagerGive) [(wMl m),(wHd o.h),(0,false,[C.tr false (T.bool (o.1 == 7))])] fun (r9:Ml × Int)=>gl r9.fst.2.length<|gl r9.fst.3.length<|gl r9.fst.2.length<|gl r9.fst.3.length<|gl r9.fst.2.length<|gl r9.fst.3.length<|some ([(oR (Ml.cs r9.fst)),(true,[.tr true (T.int i64 r9.2),.tr true (T.int i64 0),.tr true (T.int i64 0),.tr true (T.int i64 0),.tr true (T.int i64 0),.tr true (T.int i64 0),.tr true (T.int i64 0),.tr true (.arr (1) (0) (fun x x_1=>T.hole)),.tr true (T.int i64 0),.tr true (T.int i64 0),.tr true (T.int i64 0)])],[(false,[]),(false,[]),(false,[])]) else bif o.1 == 8 then entK ok_sStt ea_sStt (f_sStt) [(wMl m),(wHd o.h)] fun (r10:An)=>gl r1.2.length<|gl r1.3.length<|gl r10.4.length<|gl r1.2.length<|gl r1.3.length<|gl r10.4.length<|some ([(oR (Ml.cs r1)),(oR (An.cs r10))],[(false,[]),(false,[]),(false,[])]) else bif o.1 == 9 then gl r1.2.length<|gl r1.3.length<|gl r1.2.length<|gl r1.3.length<|some ([(oR (Ml.cs r1)),(true,[.tr true (T.int i64 0),.tr true (T.int i64 0),.tr true (T.int i64 0),.tr true (T.int i64 0),.tr true (T.int i64 0),.tr true (T.int i64 0),.tr true (T.int i64 0),.tr true (.arr (1) (0) (fun x x_1=>T.hole)),.tr true (T.int i64 0),.tr true (T.int i64 0),.tr true (T.int i64 0)])],[(false,[]),(false,[]),(false,[])]) else gl r1.2.length<|gl r1.3.length<|gl r1.2.length<|gl r1.3.length<|some ([(oR (Ml.cs r1)),(true,[.tr true (T.int i64 1),.tr true (T.int i64 0),.tr true (T.int i64 0),.tr true (T.int i64 0),.tr true (T.int i64 0),.tr true (T.int i64 0),.tr true (T.int i64 0),.tr true (.arr (1) (0) (fun x x_1=>T.hole)),.tr true (T.int i64 0),.tr true (T.int i64 0),.tr true (T.int i64 0)])],[(false,[]),(false,[]),(false,[])])):=by kernel_rfl
end Go.Mach.F
namespace Go.Mach.F
open Go Go.Mach Go.Proofs.Tryz
theorem rowsL {α:Type} (row:α→List T) (l:List α):rowsT (l.map row)=atL row l:=by
 funext j k
 unfold rowsT atL
 have e:(l.map row).getD j []=match l[j]? with | some x=>row x | none=>[]:=by
  rw [List.getD_eq_getElem?_getD,List.getElem?_map]
  cases l[j]? <;> rfl
 rw [e]
 cases l[j]? <;> rfl
theorem rowB_u8 (k:Int):rowB (u8 k)=[T.int IntKind.u8 (IntKind.u8.wrap k)]:=by
 have h:IntKind.u8.wrap k=k % 256:=by
  unfold IntKind.wrap
  simp [IntKind.signed,IntKind.bits]
 unfold rowB u8
 rw [h]
 have h0:0≤k % 256:=Int.emod_nonneg _ (by decide)
 have h1:k % 256 < 256:=Int.emod_lt_of_pos _ (by decide)
 rw [UInt8.toNat_ofNat']
 congr 2
 omega
theorem rows4 (a b c d:Int):rowsT [[T.int IntKind.u8 (IntKind.u8.wrap a)],[T.int IntKind.u8 (IntKind.u8.wrap b)],[T.int IntKind.u8 (IntKind.u8.wrap c)],[T.int IntKind.u8 (IntKind.u8.wrap d)]]=atL rowB [u8 a,u8 b,u8 c,u8 d]:=by
 rw [← rowsL]
 simp only [List.map,rowB_u8]
theorem rof_map {l l':List Rm} (e:l.map Rm.h=l'.map Rm.h) (h:Hd):rof l h=rof l' h:=by
 have e1:l.length=l'.length:=by simpa using congrArg List.length e
 have e2:∀ i:Nat,l[i]?.map Rm.h=l'[i]?.map Rm.h:=fun i=>by rw [← List.getElem?_map,← List.getElem?_map,e]
 unfold rof
 simp only [e1,e2]
theorem map_setH {l:List Rm} {j:Nat} {x y:Rm} (hx:l[j]?=some x) (e:y.h=x.h):(l.set j y).map Rm.h=l.map Rm.h:=by
 refine List.ext_getElem? fun i=>?_
 rw [List.getElem?_map,List.getElem?_map,List.getElem?_set]
 split
 ·rename_i hj
  subst hj
  split
  ·rw [hx];simp [e]
  ·rename_i hn
   rw [List.getElem?_eq_none (by omega)]
 ·rfl
theorem room_set {l:List Rm} {h:Hd} {x y:Rm} (h0:¬ rof l h < 0) (hx:l[(rof l h).toNat]?=some x) (e:y.h=x.h):roomAt (l.set (rof l h).toNat y) h=y:=by
 have e1:=rof_lt h0
 unfold roomAt
 rw [rof_map (map_setH hx e),decide_eq_false h0,cond_false,List.getD_eq_getElem?_getD,List.getElem?_set_self e1.2]
 rfl
theorem alc_room {m:Ml} {h:Hd} {sz al:Int} {fr:Bool} (e:(alcM m h sz al fr).2=0):(0≤rof m.rooms h∧(rof m.rooms h).toNat < m.rooms.length)∧(roomAt (alcM m h sz al fr).1.rooms h).ep=(rmJ m (rof m.rooms h)).ep∧(roomAt (alcM m h sz al fr).1.rooms h).things.length=(rmJ m (rof m.rooms h)).things.length+1:=by
 unfold alcM at e ⊢
 cases hsz:szOk sz al with
 | false=>rw [hsz] at e;exact absurd e (by decide:¬ (1:Int)=0)
 | true =>
  rw [hsz] at e
  simp only [cond_true] at e ⊢
  by_cases e1:(rsv m h).2=0
  case neg=>simp only [e1,decide_false,cond_false] at e
  simp only [e1,decide_true,cond_true] at e ⊢
  have hr:¬ rof m.rooms h < 0∧(rsv m h).1=rof m.rooms h:=by
   unfold rsv at e1 ⊢
   cases hh:hOk h with
   | false=>rw [hh] at e1;exact absurd e1 (by decide:¬ (1:Int)=0)
   | true =>
    rw [hh] at e1
    by_cases e2:rof m.rooms h < 0
    ·simp only [e2,decide_true,cond_true] at e1;exact absurd e1 (by decide:¬ (2:Int)=0)
    ·simp only [e2,decide_false,cond_true,cond_false,not_false_eq_true,and_self]
  have hl:=rof_lt hr.1
  have hx:=getD_get hl.2
  refine ⟨hl,?_⟩
  rw [hr.2] at e ⊢
  unfold alcR at e ⊢
  obtain ⟨x,hxe⟩:∃ x,x=rmJ m (rof m.rooms h):=⟨_,rfl⟩
  rw [show m.rooms.getD (rof m.rooms h).toNat zRm=rmJ m (rof m.rooms h) from rfl,← hxe] at hx
  rw [← hxe] at e ⊢
  have fin:∀ y:Rm,y.h=x.h→y.ep=x.ep→y.things=x.things→(roomAt (setJ m (rof m.rooms h) (thgR y sz)).rooms h).ep=x.ep∧(roomAt (setJ m (rof m.rooms h) (thgR y sz)).rooms h).things.length=x.things.length+1:=fun y y1 y2 y3=>by
   unfold setJ
   dsimp only
   rw [room_set hr.1 hx (show (thgR y sz).h=x.h from y1)]
   exact ⟨y2,by unfold thgR;simp [y3]⟩
  by_cases a3:12≤(x.things.length:Int)
  ·simp only [a3,decide_true,cond_true] at e;exact absurd e (by decide:¬ (8:Int)=0)
  simp only [a3,decide_false,cond_false] at e ⊢
  by_cases a4:m.c.size < sz
  ·simp only [a4,decide_true,cond_true] at e ⊢
   cases hd:decide (m.c.chunks < IntKind.i64.wrap (tkn m.rooms+cdv sz m.c.size)) with
   | true=>rw [hd] at e;exact absurd e (by decide:¬ (5:Int)=0)
   | false=>cases fr with
    | true=>rw [hd] at e;exact absurd e (by decide:¬ (6:Int)=0)
    | false=>exact fin (bigR x (cdv sz m.c.size)) rfl rfl rfl
  ·simp only [a4,decide_false,cond_false] at e ⊢
   generalize needC m x sz al=N at e ⊢
   cases hd:(N&&decide (m.c.chunks < IntKind.i64.wrap (tkn m.rooms+1))) with
   | true=>rw [hd] at e;exact absurd e (by decide:¬ (5:Int)=0)
   | false=>exact fin (smlR x N sz al) (by cases N <;> rfl) (by cases N <;> rfl) (by cases N <;> rfl)
theorem body_iStt (m:Ml) (h:Hd) (n:Nat) (h0:ok_iStt (m,h)):body prog (tabS [(i_iRsv,e_iRsv)]) kp_iStt n F_iStt (ea_iStt (m,h))=some (erR 2 (f_iStt (m,h)).cs):=by
 have hlm:=lm
 have hl:m.rooms.length≤LM:=h0
 have c0:ok_iRsv (m,h):=hl
 unfold ea_iStt f_iStt
 dsimp only
 rw [pre_iStt]
 try simp (implicitDefEqProofs:=false) only [eL_T,Ml.cs,Hd.cs]
 rw [entK_of (dm_iRsv c0) (iv_iRsv c0)]
 simp (implicitDefEqProofs:=false) only [d_iRsv,int_ne]
 by_cases e:(rsv m h).2=0
 case neg =>
  simp (implicitDefEqProofs:=false) only [stt,e,decide_false,Bool.not_false,cond_true,cond_false]
  rfl
 have hk:=rsv_ok e
 have hx:=getD_get hk.2
 obtain ⟨x,hxe⟩:∃ x,x=rmJ m (rsv m h).1:=⟨_,rfl⟩
 rw [show m.rooms.getD (rsv m h).1.toNat zRm=rmJ m (rsv m h).1 from rfl,← hxe] at hx
 have e0:=hk.1
 have e1:=hk.2
 have s4:(4:Nat) * 1≤70368744177664:=by omega
 simp (implicitDefEqProofs:=false) only [stt,← hxe,rsx0,e,e0,e1,Bool.not_true,cond_false,atL_of hx,Rm.cs,T.get,ble_d,Nat.le_refl,lse]
 rcases hc:x.cur with _ | _
 ·simp (implicitDefEqProofs:=false) only [hc,cond_false]
  rw [show [T.int IntKind.u8 0]=[T.int IntKind.u8 (IntKind.u8.wrap 0)] from rfl,rows4]
  rfl
 ·simp (implicitDefEqProofs:=false) only [hc,cond_true]
  rw [rows4]
  rfl
theorem s_iStt:EntOk prog i_iStt e_iStt:=ent_ok ea_iStt_inj fun x hx =>
 body_sound (φ:=(tabS [(i_iRsv,e_iRsv)])) (tabS_cons s_iRsv tabS_nil) mixed (kp:=kp_iStt) (n:=0) func65 (c:=bodyOf F_iStt) (by kernel_rfl) (body_iStt x.1 x.2 (0) hx) (name_ok (by kernel_rfl))
theorem body_sStt (m:Ml) (h:Hd) (n:Nat) (h0:ok_sStt (m,h)):body prog (tabS [(i_sRsv,e_sRsv)]) kp_sStt n F_sStt (ea_sStt (m,h))=some (erR 2 (f_sStt (m,h)).cs):=by
 have hlm:=lm
 have hl:m.rooms.length≤LM:=h0
 have c0:ok_sRsv (m,h):=hl
 unfold ea_sStt f_sStt
 dsimp only
 rw [pre_sStt]
 try simp (implicitDefEqProofs:=false) only [eL_T,Ml.cs,Hd.cs]
 rw [entK_of (dm_sRsv c0) (iv_sRsv c0)]
 simp (implicitDefEqProofs:=false) only [d_sRsv,int_ne]
 by_cases e:(rsv m h).2=0
 case neg =>
  simp (implicitDefEqProofs:=false) only [stt,e,decide_false,Bool.not_false,cond_true,cond_false]
  rfl
 have hk:=rsv_ok e
 have hx:=getD_get hk.2
 obtain ⟨x,hxe⟩:∃ x,x=rmJ m (rsv m h).1:=⟨_,rfl⟩
 rw [show m.rooms.getD (rsv m h).1.toNat zRm=rmJ m (rsv m h).1 from rfl,← hxe] at hx
 have e0:=hk.1
 have e1:=hk.2
 have s4:(4:Nat) * 1≤70368744177664:=by omega
 simp (implicitDefEqProofs:=false) only [stt,← hxe,rsx0,e,e0,e1,Bool.not_true,cond_false,atL_of hx,Rm.cs,T.get,ble_d,Nat.le_refl,lse]
 rcases hc:x.cur with _ | _
 ·simp (implicitDefEqProofs:=false) only [hc,cond_false]
  rw [show [T.int IntKind.u8 0]=[T.int IntKind.u8 (IntKind.u8.wrap 0)] from rfl,rows4]
  rfl
 ·simp (implicitDefEqProofs:=false) only [hc,cond_true]
  rw [rows4]
  rfl
theorem s_sStt:EntOk prog i_sStt e_sStt:=ent_ok ea_sStt_inj fun x hx =>
 body_sound (φ:=(tabS [(i_sRsv,e_sRsv)])) (tabS_cons s_sRsv tabS_nil) mixed (kp:=kp_sStt) (n:=0) func50 (c:=bodyOf F_sStt) (by kernel_rfl) (body_sStt x.1 x.2 (0) hx) (name_ok (by kernel_rfl))
end Go.Mach.F
namespace Go.Mach.F
open Go Go.Mach Go.Proofs.Tryz
theorem body_iEcl (m:Ml) (o:Op1) (a:An) (n:Nat) (h:ok_iEcl (m,o,a)):body prog tb39 kp_iEcl n F_iEcl (ea_iEcl (m,o,a))=some ([oR (f_iEcl (m,o,a)).1.cs,oR (f_iEcl (m,o,a)).2.cs],[nul,nul,nul]):=by
 have hlm:=lm
 obtain ⟨⟨⟨g1,g2⟩,g3⟩,g4⟩:=h
 obtain ⟨g4,g5⟩:=g4
 have c0:ok_iModel m:=⟨g1,g2⟩
 have c1:ok_iEmk (m,o.h,a.h,!decide (a.code=4)):=⟨g1,g2⟩
 have c2:ok_iEagerAlloc (m,o.h,o.n,o.m,decide (a.code=6)):=⟨g1,g2⟩
 have c3:ok_iEagerRead (m,o.r,o.n,o.m):=g1
 have c4:ok_iEagerWrite (m,o.r,o.n,o.b):=⟨g1,g2,g3⟩
 have c5:ok_iEagerTag (m,o.h,o.n):=⟨g1,g2⟩
 have c6:ok_iEagerGive (m,o.h,decide (o.kind=7)):=⟨g1,g2,g4,g5⟩
 have ct:ok_iEagerGive (m,o.h,true):=⟨g1,g2,g4,g5⟩
 have c8:ok_iStt (m,o.h):=g1.1
 have c7:ok_iRoomOf (m,o.h):=g1.1
 unfold ea_iEcl f_iEcl
 dsimp only
 rw [pre_iEcl]
 try simp (implicitDefEqProofs:=false) only [eL_T,Ml.cs,Hd.cs,Rf.cs,Op1.cs,An.cs]
 rw [entK_of (dm_iModel c0) (iv_iModel c0)]
 simp (implicitDefEqProofs:=false) only [d_iModel,rsx0,int_ne,int_eq]
 by_cases k1:o.kind=1
 case pos =>
  simp (implicitDefEqProofs:=false) only [ecl,decide_eq_true k1,cond_true]
  rw [entK_of (dm_iEmk c1) (iv_iEmk c1)]
  simp (implicitDefEqProofs:=false) only [d_iEmk]
  generalize emkM m o.h a.h (!decide (a.code=4))=x
  by_cases ex:x.2=0
  ·simp (implicitDefEqProofs:=false) only [mkeA,ex,decide_true,cond_true]
   rfl
  ·simp (implicitDefEqProofs:=false) only [mkeA,ex,decide_false,cond_false]
   rfl
 simp (implicitDefEqProofs:=false) only [ecl,decide_eq_false k1,cond_false]
 by_cases k2:o.kind=2
 case pos =>
  simp (implicitDefEqProofs:=false) only [decide_eq_true k2,cond_true]
  rw [entK_of (dm_iEagerAlloc c2) (iv_iEagerAlloc c2)]
  simp (implicitDefEqProofs:=false) only [d_iEagerAlloc]
  have hal:=@alc_room m o.h o.n o.m (decide (a.code=6))
  generalize alcM m o.h o.n o.m (decide (a.code=6))=x at hal ⊢
  by_cases ex:x.2=0
  ·obtain ⟨hl,-,-⟩:=hal ex
   have hx:=getD_get hl.2
   obtain ⟨y,hye⟩:∃ y,y=rmJ m (rof m.rooms o.h):=⟨_,rfl⟩
   rw [show m.rooms.getD (rof m.rooms o.h).toNat zRm=rmJ m (rof m.rooms o.h) from rfl,← hye] at hx
   have e0:=hl.1
   have e1:=hl.2
   simp (implicitDefEqProofs:=false) only [alcA,ex,decide_true,cond_true,← hye]
   rw [entK_of (dm_iRoomOf c7) (iv_iRoomOf c7)]
   simp (implicitDefEqProofs:=false) only [d_iRoomOf,rsx0,e0,e1,atL_of hx,Rm.cs,T.get]
   rfl
  ·simp (implicitDefEqProofs:=false) only [alcA,ex,decide_false,cond_false]
   rfl
 simp (implicitDefEqProofs:=false) only [decide_eq_false k2,cond_false]
 by_cases k3:o.kind=3
 case pos =>
  simp (implicitDefEqProofs:=false) only [decide_eq_true k3,cond_true]
  rw [entK_of (dm_iEagerRead c3) (iv_iEagerRead c3)]
  simp (implicitDefEqProofs:=false) only [d_iEagerRead,reaA]
  rfl
 simp (implicitDefEqProofs:=false) only [decide_eq_false k3,cond_false]
 by_cases k4:o.kind=4
 case pos =>
  simp (implicitDefEqProofs:=false) only [decide_eq_true k4,cond_true]
  rw [entK_of (dm_iEagerWrite c4) (iv_iEagerWrite c4)]
  simp (implicitDefEqProofs:=false) only [d_iEagerWrite,cdA]
  rfl
 simp (implicitDefEqProofs:=false) only [decide_eq_false k4,cond_false]
 by_cases k5:o.kind=5
 case pos =>
  simp (implicitDefEqProofs:=false) only [decide_eq_true k5,cond_true]
  rw [entK_of (dm_iEagerTag c5) (iv_iEagerTag c5)]
  simp (implicitDefEqProofs:=false) only [d_iEagerTag,cdA]
  rfl
 simp (implicitDefEqProofs:=false) only [decide_eq_false k5,cond_false]
 by_cases k6:o.kind=6
 case pos =>
  simp (implicitDefEqProofs:=false) only [decide_eq_true k6,cond_true]
  rw [entK_of (dm_iEagerGive c6) (iv_iEagerGive c6)]
  simp (implicitDefEqProofs:=false) only [d_iEagerGive,cdA]
  rfl
 simp (implicitDefEqProofs:=false) only [decide_eq_false k6,cond_false]
 by_cases k7:o.kind=7
 case pos =>
  simp (implicitDefEqProofs:=false) only [decide_eq_true k7,cond_true]
  rw [entK_of (dm_iEagerGive ct) (iv_iEagerGive ct)]
  simp (implicitDefEqProofs:=false) only [d_iEagerGive,cdA]
  rfl
 simp (implicitDefEqProofs:=false) only [decide_eq_false k7,cond_false]
 by_cases k8:o.kind=8
 case pos =>
  simp (implicitDefEqProofs:=false) only [decide_eq_true k8,cond_true]
  rw [entK_of (dm_iStt c8) (iv_iStt c8)]
  simp (implicitDefEqProofs:=false) only [d_iStt,cdA]
  rfl
 simp (implicitDefEqProofs:=false) only [decide_eq_false k8,cond_false]
 by_cases k9:o.kind=9
 case pos =>
  simp (implicitDefEqProofs:=false) only [decide_eq_true k9,cond_true]
  rfl
 simp (implicitDefEqProofs:=false) only [decide_eq_false k9,cond_false]
 rfl
theorem s_iEcl:EntOk prog i_iEcl e_iEcl:=ent_ok ea_iEcl_inj fun x hx =>
 body_sound (φ:=tb39) (tabS_cons s_iModel (tabS_cons s_iEmk (tabS_cons s_iEagerAlloc (tabS_cons s_iRoomOf (tabS_cons s_iEagerRead (tabS_cons s_iEagerWrite (tabS_cons s_iEagerTag (tabS_cons s_iEagerGive (tabS_cons s_iStt tabS_nil))))))))) mixed (kp:=kp_iEcl) (n:=0) func14 (c:=bodyOf F_iEcl) (by kernel_rfl) (body_iEcl x.1 x.2.1 x.2.2 (0) hx) (name_ok (by kernel_rfl))
theorem body_sEcl (m:Ml) (o:Op1) (a:An) (n:Nat) (h:ok_sEcl (m,o,a)):body prog tb40 kp_sEcl n F_sEcl (ea_sEcl (m,o,a))=some ([oR (f_sEcl (m,o,a)).1.cs,oR (f_sEcl (m,o,a)).2.cs],[nul,nul,nul]):=by
 have hlm:=lm
 obtain ⟨⟨⟨g1,g2⟩,g3⟩,g4,g6⟩:=h
 obtain ⟨g5,g6⟩:=g6
 have c0:ok_sModel m:=⟨g1,g2⟩
 have c1:ok_sEmk (m,o.h,a.h,!decide (a.code=4)):=⟨g1,g2⟩
 have c2:ok_sEagerAlloc (m,o.h,o.n,o.m,decide (a.code=6)):=⟨g1,g2⟩
 have c3:ok_sEagerRead (m,o.r,o.n,o.m):=g1
 have c4:ok_sEagerWrite (m,o.r,o.n,o.b):=⟨g1,g2,g3⟩
 have c5:ok_sEagerTag (m,o.h,o.n):=⟨g1,g2⟩
 have c6:ok_sEagerGive (m,o.h,decide (o.kind=7)):=⟨g1,g2,g4,g5⟩
 have ct:ok_sEagerGive (m,o.h,true):=⟨g1,g2,g4,g5⟩
 have c8:ok_sStt (m,o.h):=g1.1
 unfold ea_sEcl f_sEcl
 dsimp only
 rw [pre_sEcl]
 try simp (implicitDefEqProofs:=false) only [eL_T,Ml.cs,Hd.cs,Rf.cs,Op1.cs,An.cs]
 rw [entK_of (dm_sModel c0) (iv_sModel c0)]
 simp (implicitDefEqProofs:=false) only [d_sModel,rsx0,int_ne,int_eq]
 by_cases k1:o.kind=1
 case pos =>
  simp (implicitDefEqProofs:=false) only [ecl,decide_eq_true k1,cond_true]
  rw [entK_of (dm_sEmk c1) (iv_sEmk c1)]
  simp (implicitDefEqProofs:=false) only [d_sEmk]
  generalize emkM m o.h a.h (!decide (a.code=4))=x
  by_cases ex:x.2=0
  ·simp (implicitDefEqProofs:=false) only [mkeA,ex,decide_true,cond_true]
   rfl
  ·simp (implicitDefEqProofs:=false) only [mkeA,ex,decide_false,cond_false]
   rfl
 simp (implicitDefEqProofs:=false) only [ecl,decide_eq_false k1,cond_false]
 by_cases k2:o.kind=2
 case pos =>
  simp (implicitDefEqProofs:=false) only [decide_eq_true k2,cond_true]
  rw [entK_of (dm_sEagerAlloc c2) (iv_sEagerAlloc c2)]
  simp (implicitDefEqProofs:=false) only [d_sEagerAlloc]
  have hal:=@alc_room m o.h o.n o.m (decide (a.code=6))
  have c9:ok_sRoomAt ((alcM m o.h o.n o.m (decide (a.code=6))).1,o.h):=g6
  generalize alcM m o.h o.n o.m (decide (a.code=6))=x at hal c9 ⊢
  by_cases ex:x.2=0
  ·obtain ⟨hl,h2,h3⟩:=hal ex
   have hx:=getD_get hl.2
   have hy:=(g1.2 _ (List.mem_of_getElem? hx)).2.1.1
   rw [show m.rooms.getD (rof m.rooms o.h).toNat zRm=rmJ m (rof m.rooms o.h) from rfl] at hy
   simp (implicitDefEqProofs:=false) only [alcA,ex,decide_true,cond_true,Bool.not_true,cond_false,rsx0,cut_all]
   rw [entK_of (dm_sRoomAt c9) (iv_sRoomAt c9)]
   simp (implicitDefEqProofs:=false) only [d_sRoomAt,h2,h3]
   rw [show ((((rmJ m (rof m.rooms o.h)).things.length+1:Nat):Int) - 1)=(((rmJ m (rof m.rooms o.h)).things.length:Nat):Int) by omega,wrapI (by omega) (by omega)]
   rfl
  ·simp (implicitDefEqProofs:=false) only [alcA,ex,decide_false,cond_false,Bool.not_false,cond_true]
   rfl
 simp (implicitDefEqProofs:=false) only [decide_eq_false k2,cond_false]
 by_cases k3:o.kind=3
 case pos =>
  simp (implicitDefEqProofs:=false) only [decide_eq_true k3,cond_true]
  rw [entK_of (dm_sEagerRead c3) (iv_sEagerRead c3)]
  simp (implicitDefEqProofs:=false) only [d_sEagerRead,reaA]
  rfl
 simp (implicitDefEqProofs:=false) only [decide_eq_false k3,cond_false]
 by_cases k4:o.kind=4
 case pos =>
  simp (implicitDefEqProofs:=false) only [decide_eq_true k4,cond_true]
  rw [entK_of (dm_sEagerWrite c4) (iv_sEagerWrite c4)]
  simp (implicitDefEqProofs:=false) only [d_sEagerWrite,cdA]
  rfl
 simp (implicitDefEqProofs:=false) only [decide_eq_false k4,cond_false]
 by_cases k5:o.kind=5
 case pos =>
  simp (implicitDefEqProofs:=false) only [decide_eq_true k5,cond_true]
  rw [entK_of (dm_sEagerTag c5) (iv_sEagerTag c5)]
  simp (implicitDefEqProofs:=false) only [d_sEagerTag,cdA]
  rfl
 simp (implicitDefEqProofs:=false) only [decide_eq_false k5,cond_false]
 by_cases k6:o.kind=6
 case pos =>
  simp (implicitDefEqProofs:=false) only [decide_eq_true k6,cond_true]
  rw [entK_of (dm_sEagerGive c6) (iv_sEagerGive c6)]
  simp (implicitDefEqProofs:=false) only [d_sEagerGive,cdA]
  rfl
 simp (implicitDefEqProofs:=false) only [decide_eq_false k6,cond_false]
 by_cases k7:o.kind=7
 case pos =>
  simp (implicitDefEqProofs:=false) only [decide_eq_true k7,cond_true]
  rw [entK_of (dm_sEagerGive ct) (iv_sEagerGive ct)]
  simp (implicitDefEqProofs:=false) only [d_sEagerGive,cdA]
  rfl
 simp (implicitDefEqProofs:=false) only [decide_eq_false k7,cond_false]
 by_cases k8:o.kind=8
 case pos =>
  simp (implicitDefEqProofs:=false) only [decide_eq_true k8,cond_true]
  rw [entK_of (dm_sStt c8) (iv_sStt c8)]
  simp (implicitDefEqProofs:=false) only [d_sStt,cdA]
  rfl
 simp (implicitDefEqProofs:=false) only [decide_eq_false k8,cond_false]
 by_cases k9:o.kind=9
 case pos =>
  simp (implicitDefEqProofs:=false) only [decide_eq_true k9,cond_true]
  rfl
 simp (implicitDefEqProofs:=false) only [decide_eq_false k9,cond_false]
 rfl
theorem s_sEcl:EntOk prog i_sEcl e_sEcl:=ent_ok ea_sEcl_inj fun x hx =>
 body_sound (φ:=tb40) (tabS_cons s_sModel (tabS_cons s_sEmk (tabS_cons s_sAl27 (tabS_cons s_sEagerRead (tabS_cons s_sEagerWrite (tabS_cons s_sEagerTag (tabS_cons s_sEagerGive (tabS_cons s_sStt tabS_nil)))))))) mixed (kp:=kp_sEcl) (n:=0) func10 (c:=bodyOf F_sEcl) (by kernel_rfl) (body_sEcl x.1 x.2.1 x.2.2 (0) hx) (name_ok (by kernel_rfl))
end Go.Mach.F
namespace Go.Mach.F
open Go Go.Mach Go.Proofs.Tryz
theorem cntL_set {α:Type} (c:α→Nat):∀ {l:List α} {j:Nat} {x y:α},l[j]?=some x→cntL c (l.set j y)+c x=cntL c l+c y
 | [],_,_,_,h=>by simp at h
 | z :: l,0,x,y,h=>by
  simp at h
  subst h
  simp only [List.set_cons_zero,cntL]
  omega
 | z :: l,j+1,x,y,h=>by
  have:=cntL_set c (l:=l) (j:=j) (x:=x) (y:=y) (by simpa using h)
  simp only [List.set_cons_succ,cntL]
  omega
theorem rooms_set {l:List Rm} {j:Nat} {x y:Rm} (hq:okq_RmS l) (hx:l[j]?=some x) (hy:okq_HdS y.kids∧okq_SfS y.things∧okq_LI y.tags) (d:Nat) (hn:n1_RmS y≤n1_RmS x+d):okq_RmS (l.set j y)∧n_RmS (l.set j y)≤n_RmS l+d:=by
 refine ⟨⟨by rw [List.length_set];exact hq.1,fun z hz=>?_⟩,?_⟩
 ·rcases List.mem_or_eq_of_mem_set hz with h | rfl
  ·exact hq.2 _ h
  ·exact hy
 ·have:=cntL_set n1_RmS (y:=y) hx
  unfold n_RmS
  rw [List.length_set]
  omega
theorem tagM_ok {m:Ml} {h:Hd} {k:Int} (hq:okq_RmS m.rooms) (hl:okq_LI m.log):(okq_RmS (tagM m h k).1.rooms∧okq_LI (tagM m h k).1.log)∧n_RmS (tagM m h k).1.rooms≤n_RmS m.rooms+1∧(tagM m h k).1.log=m.log:=by
 have hbm:=bm
 unfold tagM
 cases (decide (0≤k)&&decide (k≤255)) with
 | false=>exact ⟨⟨hq,hl⟩,Nat.le_succ _,rfl⟩
 | true =>
  by_cases e:(rsv m h).2=0
  ·have hk:=rsv_ok e
   have hx:=getD_get hk.2
   obtain ⟨x,hxe⟩:∃ x,x=m.rooms.getD (rsv m h).1.toNat zRm:=⟨_,rfl⟩
   rw [← hxe] at hx ⊢
   simp only [e,decide_true,cond_true]
   by_cases e2:6≤(x.tags.length:Int)
   ·simp only [e2,decide_true,cond_true,and_true]
    exact ⟨⟨hq,hl⟩,Nat.le_succ _⟩
   ·simp only [e2,decide_false,cond_false,and_true]
    have hy:=hq.2 _ (List.mem_of_getElem? hx)
    have hs:=rooms_set (y:=tagR x k) hq hx ⟨hy.1,hy.2.1,by unfold okq_LI tagR;rw [List.length_append,List.length_singleton];omega⟩ 1 (by unfold n1_RmS tagR n_LI;rw [List.length_append,List.length_singleton];dsimp only;omega)
    exact ⟨⟨hs.1,hl⟩,hs.2⟩
  ·simp only [e,decide_false,cond_true,cond_false,and_true]
   exact ⟨⟨hq,hl⟩,Nat.le_succ _⟩
end Go.Mach.F
namespace Go.Mach.F
open Go Go.Mach Go.Proofs.Tryz
theorem cntL_app {α:Type} (c:α→Nat):∀ (l l':List α),cntL c (l ++ l')=cntL c l+cntL c l'
 | [],l'=>by simp [cntL]
 | x :: l,l'=>by
  have:=cntL_app c l l'
  simp only [List.cons_append,cntL]
  omega
theorem thgR_ok {m:Ml} {j:Nat} {x y:Rm} {sz:Int} (hz:1≤sz∧sz≤200) (hq:okq_RmS m.rooms) (hx:m.rooms[j]?=some x) (h12:¬ 12≤(x.things.length:Int)) (e1:y.kids=x.kids) (e2:y.things=x.things) (e3:y.tags=x.tags) :
  okq_RmS (m.rooms.set j (thgR y sz))∧n_RmS (m.rooms.set j (thgR y sz))≤n_RmS m.rooms+201:=by
 have hbm:=bm
 have hy:=hq.2 _ (List.mem_of_getElem? hx)
 refine rooms_set hq hx ⟨?_,⟨?_,?_⟩,?_⟩ 201 ?_
 ·show okq_HdS y.kids
  rw [e1]
  exact hy.1
 ·show (y.things ++ [(⟨List.replicate sz.toNat 0⟩:Sf)]).length≤BM
  rw [List.length_append,e2,List.length_singleton]
  omega
 ·intro z hz'
  rcases List.mem_append.1 (show z∈y.things ++ [(⟨List.replicate sz.toNat 0⟩:Sf)] from hz') with h | h
  ·rw [e2] at h
   exact hy.2.1.2 _ h
  ·rw [List.mem_singleton.1 h]
   show (List.replicate sz.toNat (0:UInt8)).length≤BM
   rw [List.length_replicate]
   omega
 ·show okq_LI y.tags
  rw [e3]
  exact hy.2.2
 ·have hn:n_SfS (y.things ++ [(⟨List.replicate sz.toNat 0⟩:Sf)])=n_SfS x.things+(1+sz.toNat):=by
   unfold n_SfS
   rw [List.length_append,cntL_app,e2]
   have:cntL n1_SfS [(⟨List.replicate sz.toNat 0⟩:Sf)]=sz.toNat:=by
    show (List.replicate sz.toNat (0:UInt8)).length+0=_
    rw [List.length_replicate]
    rfl
   rw [this,List.length_singleton]
   omega
  show n_HdS y.kids+n_SfS (y.things ++ [(⟨List.replicate sz.toNat 0⟩:Sf)])+n_LI y.tags≤n_HdS x.kids+n_SfS x.things+n_LI x.tags+201
  rw [hn,e1,e3]
  omega
theorem alcM_ok {m:Ml} {h:Hd} {sz al:Int} {fr:Bool} (hq:okq_RmS m.rooms) (hl:okq_LI m.log):(okq_RmS (alcM m h sz al fr).1.rooms∧okq_LI (alcM m h sz al fr).1.log)∧n_RmS (alcM m h sz al fr).1.rooms≤n_RmS m.rooms+201∧(alcM m h sz al fr).1.log=m.log:=by
 have triv:(okq_RmS m.rooms∧okq_LI m.log)∧n_RmS m.rooms≤n_RmS m.rooms+201∧m.log=m.log:=⟨⟨hq,hl⟩,Nat.le_add_right _ _,rfl⟩
 unfold alcM
 cases hsz:szOk sz al with
 | false=>exact triv
 | true =>
  have hz:=(szOk_of hsz).1
  by_cases e:(rsv m h).2=0
  case neg=>simp only [e,decide_false,cond_true,cond_false,and_true];exact ⟨triv.1,triv.2.1⟩
  have hk:=rsv_ok e
  have hx:=getD_get hk.2
  simp only [e,decide_true,cond_true]
  unfold alcR rmJ
  obtain ⟨x,hxe⟩:∃ x,x=m.rooms.getD (rsv m h).1.toNat zRm:=⟨_,rfl⟩
  rw [← hxe] at hx ⊢
  by_cases a3:12≤(x.things.length:Int)
  ·simp only [a3,decide_true,cond_true,and_true];exact ⟨triv.1,triv.2.1⟩
  simp only [a3,decide_false,cond_false]
  by_cases a4:m.c.size < sz
  ·simp only [a4,decide_true,cond_true]
   cases decide (m.c.chunks < IntKind.i64.wrap (tkn m.rooms+cdv sz m.c.size)) with
   | true=>exact triv
   | false=>cases fr with
    | true=>exact triv
    | false =>
     have:=thgR_ok (m:=m) (y:=bigR x (cdv sz m.c.size)) hz hq hx a3 rfl rfl rfl
     exact ⟨⟨this.1,hl⟩,this.2,rfl⟩
  ·simp only [a4,decide_false,cond_false]
   generalize needC m x sz al=N
   cases (N&&decide (m.c.chunks < IntKind.i64.wrap (tkn m.rooms+1))) with
   | true=>exact triv
   | false =>
    have:=thgR_ok (m:=m) (y:=smlR x N sz al) hz hq hx a3 (by cases N <;> rfl) (by cases N <;> rfl) (by cases N <;> rfl)
    exact ⟨⟨this.1,hl⟩,this.2,rfl⟩
end Go.Mach.F
namespace Go.Mach.F
open Go Go.Mach Go.Proofs.Tryz
theorem okq_ins {l:List Rm} {i:Int} {x:Rm} (hq:okq_RmS l) (hl:l.length < BM) (hx:okq_HdS x.kids∧okq_SfS x.things∧okq_LI x.tags):okq_RmS (insL l i x)∧n_RmS (insL l i x)=n_RmS l+1+n1_RmS x:=by
 have hn:(insL l i x).length=l.length+1:=by
  unfold insL
  simp only [List.length_append,List.length_take,List.length_drop,List.length_singleton]
  omega
 refine ⟨⟨by omega,fun z hz=>?_⟩,?_⟩
 ·unfold insL at hz
  rcases List.mem_append.1 hz with h | h
  ·rcases List.mem_append.1 h with h | h
   ·exact hq.2 _ (List.mem_of_mem_take h)
   ·rw [List.mem_singleton] at h
    subst h
    exact hx
  ·exact hq.2 _ (List.mem_of_mem_drop h)
 ·have e1:cntL n1_RmS (insL l i x)=cntL n1_RmS l+n1_RmS x:=by
   have e:=cntL_app n1_RmS (l.take i.toNat) (l.drop i.toNat)
   rw [List.take_append_drop] at e
   have e3:cntL n1_RmS [x]=n1_RmS x:=by simp [cntL]
   unfold insL
   rw [cntL_app,cntL_app,e3]
   omega
  unfold n_RmS
  rw [hn,e1]
  omega
theorem emkM_ok {m:Ml} {up h:Hd} {b:Bool} (hq:okq_RmS m.rooms) (hl:okq_LI m.log) (hn:(n_Ml m:Int)≤1048576):(okq_RmS (emkM m up h b).1.rooms∧okq_LI (emkM m up h b).1.log)∧n_RmS (emkM m up h b).1.rooms≤n_RmS m.rooms+2∧(emkM m up h b).1.log=m.log:=by
 have hbm:=bm
 have hnm:n_Ml m=(m.rooms.length+cntL n1_RmS m.rooms)+n_LI m.log:=rfl
 have triv:(okq_RmS m.rooms∧okq_LI m.log)∧n_RmS m.rooms≤n_RmS m.rooms+2∧m.log=m.log:=⟨⟨hq,hl⟩,by omega,rfl⟩
 have put:∀ k:Int,k < 0∨k.toNat < m.rooms.length→(okq_RmS (putM m k up h).rooms∧okq_LI (putM m k up h).log)∧n_RmS (putM m k up h).rooms≤n_RmS m.rooms+2∧(putM m k up h).log=m.log:=fun k hk=>by
  have hkid:okq_RmS (kidR m.rooms k h)∧n_RmS (kidR m.rooms k h)≤n_RmS m.rooms+1:=by
   unfold kidR
   by_cases h0:0≤k
   ·rw [decide_eq_true h0,cond_true]
    have hlt:k.toNat < m.rooms.length:=hk.resolve_left (by omega)
    have hx:=getD_get hlt
    obtain ⟨x,hxe⟩:∃ x,x=m.rooms.getD k.toNat zRm:=⟨_,rfl⟩
    rw [← hxe] at hx ⊢
    have hm:=List.mem_of_getElem? hx
    have hy:=hq.2 _ hm
    have hc:=cntL_mem n1_RmS hm
    have hx1:n1_RmS x=x.kids.length+n_SfS x.things+n_LI x.tags:=rfl
    exact rooms_set (y:={ x with kids:=h :: x.kids }) hq hx ⟨⟨by rw [List.length_cons];omega,fun _ _=>trivial⟩,hy.2.1,hy.2.2⟩ 1 (by show (h :: x.kids).length+n_SfS x.things+n_LI x.tags≤_;rw [List.length_cons];omega)
   ·rw [decide_eq_false h0,cond_false]
    exact ⟨hq,Nat.le_succ _⟩
  have hkl:=kidR_len m.rooms k h
  have:=okq_ins (i:=insP (kidR m.rooms k h) h) (x:=newR h up) hkid.1 (by omega) ⟨⟨Nat.zero_le _,fun _ hz=>by cases hz⟩,⟨Nat.zero_le _,fun _ hz=>by cases hz⟩,Nat.zero_le _⟩
  refine ⟨⟨this.1,hl⟩,?_,rfl⟩
  have e:=this.2
  have h0:n1_RmS (newR h up)=0:=rfl
  show n_RmS (insL (kidR m.rooms k h) (insP (kidR m.rooms k h) h) (newR h up))≤_
  omega
 have tl:∀ k:Int,k < 0∨k.toNat < m.rooms.length→(okq_RmS (emkT m k up h b).1.rooms∧okq_LI (emkT m k up h b).1.log)∧n_RmS (emkT m k up h b).1.rooms≤n_RmS m.rooms+2∧(emkT m k up h b).1.log=m.log:=fun k hk=>by
  unfold emkT
  cases b with
  | false=>exact triv
  | true =>
   rw [cond_true]
   cases decide (m.c.chunks < IntKind.i64.wrap (tkn m.rooms+1)) with
   | true=>exact triv
   | false=>exact put k hk
 unfold emkM
 by_cases eu:up=⟨0,0⟩
 ·rw [decide_eq_true eu,cond_true]
  exact tl _ (.inl (by decide))
 ·rw [decide_eq_false eu,cond_false]
  by_cases e:(rsv m up).2=0
  ·rw [decide_eq_true e,cond_true]
   cases decide (4≤dpn m.rooms m.rooms.length up) with
   | true=>exact triv
   | false=>exact tl _ (.inr (rsv_ok e).2)
  ·rw [decide_eq_false e,cond_false]
   exact triv
end Go.Mach.F
namespace Go.Mach.F
open Go Go.Mach Go.Proofs.Tryz
theorem cntL_setle {α:Type} (c:α→Nat) {l:List α} {j:Nat} {x y:α} (h:l[j]?=some x) (e:c y=c x):cntL c (l.set j y)=cntL c l:=by
 have:=cntL_set c (y:=y) h
 omega
theorem wrtM_ok {m:Ml} {r:Rf} {k:Int} {s:List UInt8} (hq:okq_RmS m.rooms) (hl:okq_LI m.log):(okq_RmS (wrtM m r k s).1.rooms∧okq_LI (wrtM m r k s).1.log)∧n_RmS (wrtM m r k s).1.rooms≤n_RmS m.rooms∧(wrtM m r k s).1.log=m.log:=by
 have hbm:=bm
 unfold wrtM
 by_cases e:(thg m r).2=0
 ·have hk:=thg_ok e
  have hx:=getD_get hk.1.2
  have ht:=things_get hk.2.2
  obtain ⟨x,hxe⟩:∃ x,x=m.rooms.getD (thg m r).1.toNat zRm:=⟨_,rfl⟩
  obtain ⟨u,hse⟩:∃ u,u=x.things.getD r.no.toNat ⟨[]⟩:=⟨_,rfl⟩
  have hb:thB m r=u.b:=by rw [hse,hxe];rfl
  rw [← hxe] at hx ht ⊢
  rw [← hse] at ht
  rw [hb]
  simp only [e,decide_true,cond_true]
  cases hpu:(pua u.b k s).2 with
  | false =>
   simp only [cond_false,and_true]
   exact ⟨⟨hq,hl⟩,Nat.le_refl _⟩
  | true =>
   simp only [cond_true,and_true]
   have hy:=hq.2 _ (List.mem_of_getElem? hx)
   have hpl:=pua_len u.b k s
   have hz:=hy.2.1.2 _ (List.mem_of_getElem? ht)
   have hn:n_SfS (x.things.set r.no.toNat ⟨(pua u.b k s).1⟩)=n_SfS x.things:=by
    unfold n_SfS
    rw [List.length_set,cntL_setle (y:=⟨(pua u.b k s).1⟩) n1_SfS ht (show (pua u.b k s).1.length=u.b.length from hpl)]
   have hs:=rooms_set (y:=wrtR x r.no.toNat (pua u.b k s).1) hq hx ⟨hy.1,⟨by simp only [wrtR,List.length_set];exact hy.2.1.1,fun z hz'=>by
    rcases List.mem_or_eq_of_mem_set hz' with h | rfl
    ·exact hy.2.1.2 _ h
    ·show (pua u.b k s).1.length≤BM
     rw [hpl]
     exact hz⟩,hy.2.2⟩ 0 (by unfold n1_RmS wrtR;dsimp only;rw [hn];exact Nat.le_refl _)
   exact ⟨⟨hs.1,hl⟩,hs.2⟩
 ·simp only [e,decide_false,cond_true,cond_false,and_true]
  exact ⟨⟨hq,hl⟩,Nat.le_refl _⟩
end Go.Mach.F
namespace Go.Mach.F
open Go Go.Mach Go.Proofs.Tryz
theorem cntL_mono {α:Type} {c c':α→Nat} (h:∀ x,c x≤c' x):∀ l:List α,cntL c l≤cntL c' l
 | []=>Nat.le_refl _
 | x :: l=>by
  have:=cntL_mono h l
  have:=h x
  unfold cntL
  omega
theorem cntL_fm (p:Rm→Bool) (g:Rm→Rm) (h:∀ x,n1_RmS (g x)≤n1_RmS x):∀ l:List Rm,cntL n1_RmS ((l.filter p).map g)≤cntL n1_RmS l
 | []=>Nat.le_refl _
 | x :: l=>by
  have ih:=cntL_fm p g h l
  have hx:=h x
  rw [List.filter_cons]
  cases p x with
  | true =>
   simp only [ite_true,List.map_cons,cntL]
   omega
  | false =>
   simp only [Bool.false_eq_true,ite_false]
   have:cntL n1_RmS (x :: l)=n1_RmS x+cntL n1_RmS l:=rfl
   omega
theorem allK_len:∀ l:List Rm,(allK l).length≤cntL n1_RmS l
 | []=>Nat.le_refl _
 | x :: l=>by
  have ih:=allK_len l
  have e:allK (x :: l)=x.kids ++ allK l:=rfl
  have e2:cntL n1_RmS (x :: l)=n1_RmS x+cntL n1_RmS l:=rfl
  have e3:n1_RmS x=x.kids.length+n_SfS x.things+n_LI x.tags:=rfl
  rw [e,List.length_append,e2]
  omega
theorem give_ok {m:Ml} (g:ok_RmS m.rooms∧ok_LI m.log) (e:(n_Ml m:Int)≤1048576):ok_RmS m.rooms∧ok_LI m.log∧(allK m.rooms).length < LM∧cntL (fun r=>r.tags.length) m.rooms≤LM:=by
 have hlm:=lm
 have h1:=allK_len m.rooms
 have h2:=cntL_mono (c:=fun r:Rm=>r.tags.length) (c':=n1_RmS) (fun x=>by unfold n1_RmS n_LI;omega) m.rooms
 have h3:n_Ml m=m.rooms.length+cntL n1_RmS m.rooms+n_LI m.log:=rfl
 exact ⟨g.1,g.2,by omega,by omega⟩
theorem givR_n1 (h:Hd) (w:Bool) (x:Rm):n1_RmS (givR h w x)≤n1_RmS x:=by
 by_cases e:x.h=h
 ·rw [givR_at e]
  exact Nat.zero_le _
 ·rw [givR_off e]
  cases w with
  | false=>exact Nat.le_refl _
  | true =>
   have:=List.length_filter_le (fun y=>!decide (y=h)) x.kids
   unfold n1_RmS n_HdS
   dsimp only [cond_true]
   omega
theorem givR_okq {h:Hd} {w:Bool} {x:Rm} (q:okq_HdS x.kids∧okq_SfS x.things∧okq_LI x.tags):okq_HdS (givR h w x).kids∧okq_SfS (givR h w x).things∧okq_LI (givR h w x).tags:=by
 by_cases e:x.h=h
 ·rw [givR_at e]
  exact ⟨⟨Nat.zero_le _,fun _ _=>trivial⟩,⟨Nat.zero_le _,fun _ hx=>by cases hx⟩,Nat.zero_le _⟩
 ·rw [givR_off e]
  cases w with
  | false=>exact q
  | true=>exact ⟨⟨Nat.le_trans (List.length_filter_le _ _) q.1.1,fun _ _=>trivial⟩,q.2⟩
theorem givM_ok {m:Ml} {h:Hd} {w:Bool} (hq:okq_RmS m.rooms) (hl:okq_LI m.log) (hn:(n_Ml m:Int)≤1048576):(okq_RmS (givM m h w).1.rooms∧okq_LI (givM m h w).1.log)∧n_RmS (givM m h w).1.rooms≤n_RmS m.rooms∧n_LI (givM m h w).1.log≤n_LI m.log+n_RmS m.rooms:=by
 have hbm:=bm
 have h3:n_Ml m=m.rooms.length+cntL n1_RmS m.rooms+n_LI m.log:=rfl
 have h5:n_RmS m.rooms=m.rooms.length+cntL n1_RmS m.rooms:=rfl
 unfold givM
 by_cases e:(rsv m h).2=0
 ·simp only [e,decide_true,cond_true]
  have hgp:=gatH_inv m.rooms h (givN m) h ([],[]) 0 ⟨⟨List.nodup_nil,fun x hx=>by cases hx⟩,Nat.zero_le _,Nat.zero_le _⟩ (.inl rfl)
  have htl:=Nat.le_trans hgp.2.1 (sumL_le m.rooms hgp.1.nd)
  have h2:=cntL_mono (c:=fun r:Rm=>r.tags.length) (c':=n1_RmS) (fun x=>by unfold n1_RmS n_LI;omega) m.rooms
  obtain ⟨a,ha⟩:∃ a,a=gatH (givN m) m.rooms h ([],[]):=⟨_,rfl⟩
  rw [← ha] at htl ⊢
  obtain ⟨p,hp⟩:∃ p:Rm→Bool,p=fun r=>!gvK ⟨a.1,w,h⟩ r:=⟨_,rfl⟩
  rw [← hp]
  have h4:=cntL_fm p (givR h w) (givR_n1 h w) m.rooms
  have h6:((m.rooms.filter p).map (givR h w)).length≤m.rooms.length:=by rw [List.length_map];exact List.length_filter_le _ _
  have h7:n_LI (m.log ++ a.2)=n_LI m.log+a.2.length:=by unfold n_LI;rw [List.length_append]
  refine ⟨⟨⟨by have:=hq.1;omega,fun y hy=>?_⟩,?_⟩,?_,?_⟩
  ·obtain ⟨x,hx,rfl⟩:=List.mem_map.1 hy
   exact givR_okq (hq.2 x (List.mem_filter.1 hx).1)
  ·show n_LI (m.log ++ a.2)≤BM
   omega
  ·show ((m.rooms.filter p).map (givR h w)).length+cntL n1_RmS ((m.rooms.filter p).map (givR h w))≤_
   omega
  ·omega
 ·simp only [e,decide_false,cond_false]
  exact ⟨⟨hq,hl⟩,Nat.le_refl _,Nat.le_add_right _ _⟩
end Go.Mach.F
namespace Go.Mach.F
open Go Go.Mach Go.Proofs.Tryz
theorem erd_len {m:Ml} {r:Rf} {k c:Int} (hr:∀ y∈m.rooms,ok_HdS y.kids∧ok_SfS y.things∧ok_LI y.tags):(erd m r k c).1.length≤LM:=by
 unfold erd
 by_cases e:(thg m r).2=0
 ·have hk:=thg_ok e
  have hx:=getD_get hk.1.2
  have ht:=things_get hk.2.2
  have hy:=hr _ (List.mem_of_getElem? hx)
  have hl:(thB m r).length≤LM:=hy.2.1.2 _ (List.mem_of_getElem? ht)
  simp only [e,decide_true,cond_true]
  unfold gat
  cases ((decide (0≤c)&&decide (c≤((thB m r).length:Int)))&&(decide (0≤k)&&decide (k≤((thB m r).length:Int) - c))) with
  | false=>exact Nat.zero_le _
  | true =>
   simp only [cond_true,List.length_take,List.length_drop]
   omega
 ·simp only [e,decide_false,cond_false]
  exact Nat.zero_le _
end Go.Mach.F
namespace Go.Mach.F
open Go Go.Mach Go.Proofs.Tryz
theorem ok_rm {l:List Rm} (h:n_RmS l≤LM):ok_RmS l:=by
 have e:n_RmS l=l.length+cntL n1_RmS l:=rfl
 refine ⟨by omega,fun x hx=>?_⟩
 have h1:=cntL_mem n1_RmS hx
 have h2:n1_RmS x=n_HdS x.kids+n_SfS x.things+n_LI x.tags:=rfl
 have h3:n_HdS x.kids=x.kids.length:=rfl
 have h4:n_SfS x.things=x.things.length+cntL n1_SfS x.things:=rfl
 have h5:n_LI x.tags=x.tags.length:=rfl
 refine ⟨⟨by omega,fun _ _=>trivial⟩,⟨by omega,fun y hy=>?_⟩,by unfold ok_LI;omega⟩
 have h6:=cntL_mem n1_SfS hy
 have h7:n1_SfS y=y.b.length:=rfl
 unfold ok_LB
 omega
theorem stt_len (m:Ml) (h:Hd):(stt m h).b.length≤4:=by
 unfold stt
 by_cases e:(rsv m h).2=0
 ·simp only [e,decide_true,cond_true];exact Nat.le_refl 4
 ·simp only [e,decide_false,cond_false];exact Nat.zero_le 4
theorem mkeA_b (h:Hd) (x:Ml × Int):(mkeA h x).2.b=[]:=by
 unfold mkeA
 cases decide (x.2=0) <;> rfl
theorem alcA_b (m:Ml) (h:Hd) (x:Ml × Int):(alcA m h x).2.b=[]:=by
 unfold alcA
 cases decide (x.2=0) <;> rfl
theorem ecl_ok {m:Ml} {o:Op1} {a:An} (g:ok_RmS m.rooms) (hq:okq_RmS m.rooms) (hl:okq_LI m.log) (hn:(n_Ml m:Int)≤1048576):(okq_RmS (ecl m o a).1.rooms∧okq_LI (ecl m o a).1.log)∧n_RmS (ecl m o a).1.rooms≤n_RmS m.rooms+201∧n_LI (ecl m o a).1.log≤n_LI m.log+n_RmS m.rooms∧(ecl m o a).2.b.length≤LM:=by
 have hlm:=lm
 have triv:(okq_RmS m.rooms∧okq_LI m.log)∧n_RmS m.rooms≤n_RmS m.rooms+201∧n_LI m.log≤n_LI m.log+n_RmS m.rooms:=⟨⟨hq,hl⟩,Nat.le_add_right _ _,Nat.le_add_right _ _⟩
 unfold ecl
 by_cases k1:o.kind=1
 ·rw [decide_eq_true k1,cond_true,mkeA_b]
  have:=emkM_ok (up:=o.h) (h:=a.h) (b:=!decide (a.code=4)) hq hl hn
  exact ⟨this.1,by have:=this.2.1;unfold mkeA;dsimp only;omega,by have e:=this.2.2;unfold mkeA;dsimp only;rw [e];exact triv.2.2,Nat.zero_le _⟩
 rw [decide_eq_false k1,cond_false]
 by_cases k2:o.kind=2
 ·rw [decide_eq_true k2,cond_true,alcA_b]
  have:=alcM_ok (h:=o.h) (sz:=o.n) (al:=o.m) (fr:=decide (a.code=6)) hq hl
  exact ⟨this.1,this.2.1,by have e:=this.2.2;unfold alcA;dsimp only;rw [e];exact triv.2.2,Nat.zero_le _⟩
 rw [decide_eq_false k2,cond_false]
 by_cases k3:o.kind=3
 ·rw [decide_eq_true k3,cond_true]
  exact ⟨triv.1,triv.2.1,triv.2.2,erd_len g.2⟩
 rw [decide_eq_false k3,cond_false]
 by_cases k4:o.kind=4
 ·rw [decide_eq_true k4,cond_true]
  have:=wrtM_ok (r:=o.r) (k:=o.n) (s:=o.b) hq hl
  exact ⟨this.1,by have:=this.2.1;unfold cdA;dsimp only;omega,by have e:=this.2.2;unfold cdA;dsimp only;rw [e];exact triv.2.2,Nat.zero_le _⟩
 rw [decide_eq_false k4,cond_false]
 by_cases k5:o.kind=5
 ·rw [decide_eq_true k5,cond_true]
  have:=tagM_ok (h:=o.h) (k:=o.n) hq hl
  exact ⟨this.1,by have:=this.2.1;unfold cdA;dsimp only;omega,by have e:=this.2.2;unfold cdA;dsimp only;rw [e];exact triv.2.2,Nat.zero_le _⟩
 rw [decide_eq_false k5,cond_false]
 have giv:=givM_ok (h:=o.h) (w:=decide (o.kind=7)) hq hl hn
 have gv:(okq_RmS (cdA (givM m o.h (decide (o.kind=7)))).1.rooms∧okq_LI (cdA (givM m o.h (decide (o.kind=7)))).1.log)∧n_RmS (cdA (givM m o.h (decide (o.kind=7)))).1.rooms≤n_RmS m.rooms+201∧n_LI (cdA (givM m o.h (decide (o.kind=7)))).1.log≤n_LI m.log+n_RmS m.rooms∧(cdA (givM m o.h (decide (o.kind=7)))).2.b.length≤LM :=
  ⟨giv.1,by have:=giv.2.1;unfold cdA;dsimp only;omega,giv.2.2,Nat.zero_le _⟩
 by_cases k6:o.kind=6
 ·rw [decide_eq_true k6,cond_true]
  exact gv
 rw [decide_eq_false k6,cond_false]
 by_cases k7:o.kind=7
 ·rw [decide_eq_true k7] at gv ⊢
  rw [cond_true]
  exact gv
 rw [decide_eq_false k7,cond_false]
 by_cases k8:o.kind=8
 ·rw [decide_eq_true k8,cond_true]
  exact ⟨triv.1,triv.2.1,triv.2.2,by have:=stt_len m o.h;dsimp only;omega⟩
 rw [decide_eq_false k8,cond_false]
 by_cases k9:o.kind=9
 ·rw [decide_eq_true k9,cond_true]
  exact ⟨triv.1,triv.2.1,triv.2.2,Nat.zero_le _⟩
 rw [decide_eq_false k9,cond_false]
 exact ⟨triv.1,triv.2.1,triv.2.2,Nat.zero_le _⟩
theorem ecl_pre {m:Ml} {o:Op1} (g:ok_RmS m.rooms∧ok_LI m.log) (gb:ok_LB o.b) (e:(n_Ml m:Int)≤1048576):((ok_RmS m.rooms∧ok_LI m.log)∧ok_LB o.b)∧(allK m.rooms).length < LM∧cntL (fun r=>r.tags.length) m.rooms≤LM:=by
 have:=give_ok g e
 exact ⟨⟨g,gb⟩,this.2.2.1,this.2.2.2⟩
theorem alc_pre {m:Ml} {h:Hd} {sz al:Int} {fr:Bool} (hq:okq_RmS m.rooms) (hl:okq_LI m.log) (e:(n_Ml m:Int)≤1048576):ok_RmS (alcM m h sz al fr).1.rooms:=by
 have hlm:=lm
 have h3:n_Ml m=n_RmS m.rooms+n_LI m.log:=rfl
 have:=(alcM_ok (h:=h) (sz:=sz) (al:=al) (fr:=fr) hq hl).2.1
 exact ok_rm (by omega)
end Go.Mach.F
