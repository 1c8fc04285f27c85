/- Parts of the proof. -/
import Derived.Test.YtcjagpfbhnmggaaGreatDoorBd15
import Derived.Test.YtcjagpfbhnmggaaGreatDoorRows
import Derived.Sort.Grow
import Derived.Deep.Draws
namespace Go.Proofs.YtcjagpfbhnmggaaGreatDoor
namespace Sym
open Go.RowKit
section
variable {cod:Nat→aO} {P:Program}
inductive SE (cod:Nat→aO) where
 | p (s:aH cod)
 | i (s:aH cod)
 | k (s:aH cod)
abbrev aQ (cod:Nat→aO):=List (FuncId×SE cod)
def nF (L:aQ cod) (g:FuncId):Option (aH cod):=
 match L with
 | []=>none
 | (f,e)::l=>if g=f then (match e with
   | .p s=>some s
   | _=>none) else nF l g
def nE (L:aQ cod) (g:FuncId):Option (Bool×aH cod):=
 match L with
 | []=>none
 | (f,e)::l=>if g=f then (match e with
   | .p _=>none
   | .i s=>some (false,s)
   | .k s=>some (true,s)) else nE l g
def cv (P:Program) (cod:Nat→aO) (L:aQ cod):Prop:=(∀g s,nF L g=some s→Sound P cod g s)∧(∀g s,nE L g=some s→dz P cod g s.1 s.2)∧∀_:Nat,(none:Option Nat)=none
theorem cv.nil:cv P cod []:=⟨(fun _ _ h=>by cases h),(fun _ _ h=>by cases h),fun _=>rfl⟩
theorem cv.cons {f:FuncId} {s:aH cod} {L:aQ cod} (h:Sound P cod f s) (hl:cv P cod L):cv P cod ((f,.p s)::L):=by
 refine ⟨fun g s' hg=>?_,fun g s' hg=>?_,fun _=>rfl⟩
 ·simp only [nF] at hg;split at hg
  ·rename_i e;cases hg;rw [e];exact h
  ·exact hl.1 g s' hg
 ·simp only [nE] at hg;split at hg
  ·cases hg
  ·exact hl.2.1 g s' hg
theorem cv.FJ {f:FuncId} {s:aH cod} {L:aQ cod} (h:dX P cod f s) (hl:cv P cod L):cv P cod ((f,.i s)::L):=by
 refine ⟨fun g s' hg=>?_,fun g s' hg=>?_,fun _=>rfl⟩
 ·simp only [nF] at hg;split at hg
  ·cases hg
  ·exact hl.1 g s' hg
 ·simp only [nE] at hg;split at hg
  ·rename_i e;cases hg;rw [e];exact h
  ·exact hl.2.1 g s' hg
theorem cv.To {f:FuncId} {s:aH cod} {L:aQ cod} (h:dz P cod f true s) (hl:cv P cod L):cv P cod ((f,.k s)::L):=by
 refine ⟨fun g s' hg=>?_,fun g s' hg=>?_,fun _=>rfl⟩
 ·simp only [nF] at hg;split at hg
  ·cases hg
  ·exact hl.1 g s' hg
 ·simp only [nE] at hg;split at hg
  ·rename_i e;cases hg;rw [e];exact h
  ·exact hl.2.1 g s' hg
theorem T.wp_cond {α:Type} {b:Bool} {x y:T α} {Q:α→Prop}:(cond b x y).wp Q↔(if b=true then x.wp Q else y.wp Q):=by
 cases b<;>simp
theorem aW {cfg:aT cod} (hS:eL cfg) (hm:cfg.P.follows .mixedOrders=true) {f:FuncId} {fn:Func} (hf:cfg.P.funcs[f]? =some fn) (hb:fn.body.isSome=true) (jJ:(fn.name== "runtime.NumGoroutine")=false) (s:aH cod) (g:Nat)
 (h:∀(args:List SV) (H:Heap cod) (r:SV) (news:Heap cod),(s args H).ah (r,news)→(aI cfg [] fn.results.toList H.length g [.code (aj fn)] ⟨ay fn args,H⟩).wp (fun x=>x= .fin r news)):Sound cfg.P cod f s:=
 zR hf hb jJ s fun args H r news hg b0 hn=>af.NM hS hm g (cuts:=[]) rfl (T.wp_mono (Q:=fun x=>x= .fin r news) (fun x (hx:x= .fin r news)=>by subst hx;exact ⟨rfl,rfl⟩) (by rw [hn];exact h args H r news hg))
def bc (n:Nat):List (Nat×SV)→List SV
 | []=>List.replicate n (.c .eJ)
 | (g,v)::l=>List.replicate g (.c .eJ)++v::bc n l
def rdI:List Cell→Option (List Int)
 | []=>some []
 | .int .i64 n::l=>match rdI l with
   | some r=>some (n::r)
   | none=>none
 | _=>none
def ints (l:List Int):List Cell:=l.map (.int .i64)
theorem yM:∀{cs:List Cell} {l:List Int},rdI cs=some l→cs=ints l
 | [],l,h=>by
   simp only [rdI,Option.some.injEq] at h;subst h
   rfl
 | x::cs,l,h=>by
   unfold rdI at h;split at h
   ·rename_i z6;cases z6
   ·rename_i n l' z6;cases z6;split at h
    ·rename_i r hr;cases h;rw [yM hr];rfl
    ·cases h
   ·cases h
def rd1:SV→Option (List Int)
 | .c (.int .i64 n)=>some [n]
 | .agg (x::cs)=>match rdI (x::cs) with
   | some l=>some (0::l)
   | none=>none
 | _=>none
def rd:List SV→Option (List (List Int))
 | []=>some []
 | v::l=>match rd1 v with
   | none=>none
   | some x=>match rd l with
     | none=>none
     | some r=>some (x::r)
def oS:List Int→SV
 | [n]=>.c (.int .i64 n)
 | l=>.agg (ints l.tail)
theorem VR {v:SV} {l:List Int} (h:rd1 v=some l):v=oS l:=by
 unfold rd1 at h;split at h
 ·cases h;rfl
 ·rename_i x cs;split at h
  ·rename_i l hr;cases h;rw [yM hr]
   cases l with
   | nil=>cases yM hr
   | cons y l=>rfl
  ·cases h
 ·cases h
theorem b8:∀{args:List SV} {l:List (List Int)},rd args=some l→args=l.map oS
 | [],l,h=>by
   cases h
   rfl
 | v::a,l,h=>by
   simp only [rd] at h;split at h
   ·cases h
   ·rename_i y hy;split at h
    ·cases h
    ·rename_i r hr;cases h;rw [VR hy,b8 hr];rfl
end
end Sym
section
open Sym Go.RowKit
noncomputable section
def afq:aO where
 α:=Int
 enc:=fun x=>[.int .i64 x]
 dec:=fun l=>match l with | [.int _ a0]=>(a0) | _=>(0)
 ok:=fun l=>match l with | [.int .i64 _]=>true | _=>false
 size:=1
 d:=(0)
 size_eq:=fun _=>rfl
 l3:=fun _=>rfl
 ck:=fun e h=>by
  split at h
  ·rfl
  ·cases h
 pos:=Nat.zero_lt_succ _
def c2:aO where
 α:=Int×Int
 enc:=fun x=>[.int .i64 x.1,.int .i64 x.2]
 dec:=fun l=>match l with | [.int _ a0,.int _ a1]=>(a0,a1) | _=>(0,0)
 ok:=fun l=>match l with | [.int .i64 _,.int .i64 _]=>true | _=>false
 size:=2
 d:=(0,0)
 size_eq:=fun _=>rfl
 l3:=fun _=>rfl
 ck:=fun e h=>by
  split at h
  ·rfl
  ·cases h
 pos:=Nat.zero_lt_succ _
def c6:aO where
 α:=Int×Int×Int×Int×Int×Int
 enc:=fun x=>[.int .i64 x.1,.int .i64 x.2.1,.int .i64 x.2.2.1,.int .i64 x.2.2.2.1,.int .i64 x.2.2.2.2.1,.int .i64 x.2.2.2.2.2]
 dec:=fun l=>match l with | [.int _ a0,.int _ a1,.int _ a2,.int _ a3,.int _ a4,.int _ a5]=>(a0,a1,a2,a3,a4,a5) | _=>(0,0,0,0,0,0)
 ok:=fun l=>match l with | [.int .i64 _,.int .i64 _,.int .i64 _,.int .i64 _,.int .i64 _,.int .i64 _]=>true | _=>false
 size:=6
 d:=(0,0,0,0,0,0)
 size_eq:=fun _=>rfl
 l3:=fun _=>rfl
 ck:=fun e h=>by
  split at h
  ·rfl
  ·cases h
 pos:=Nat.zero_lt_succ _
def aei:aO where
 α:=Bool
 enc:=fun x=>[.bool x]
 dec:=fun l=>match l with | [.bool x]=>x | _=>false
 ok:=fun l=>match l with | [.bool _]=>true | _=>false
 size:=1
 d:=false
 size_eq:=fun _=>rfl
 l3:=fun _=>rfl
 ck:=fun e h=>by
  split at h
  ·rfl
  ·cases h
 pos:=Nat.zero_lt_one
namespace F
structure dT where
 (id st tm x y sx sy hg rt ra cd ht ms:Int)
structure cU where
 (t:dT) (sl lt lx ly lh lc le:Int)
structure bJ where
 (f:cU) (bh bs:Int) (fI:Bool)
def zO:dT:=⟨0,0,0,0,0,0,0,0,0,0,0,0,0⟩
def Mt:cU:=⟨zO,0,0,0,0,0,0,0⟩
def eK:bJ:=⟨Mt,0,0,false⟩
end F
def ko:aO where
 α:=F.cU
 enc:=fun x=>[.int .i64 x.t.id,.int .i64 x.t.st,.int .i64 x.t.tm,.int .i64 x.t.x,.int .i64 x.t.y,.int .i64 x.t.sx,.int .i64 x.t.sy,.int .i64 x.t.hg,.int .i64 x.t.rt,.int .i64 x.t.ra,.int .i64 x.t.cd,.int .i64 x.t.ht,.int .i64 x.t.ms,.int .i64 x.sl,.int .i64 x.lt,.int .i64 x.lx,.int .i64 x.ly,.int .i64 x.lh,.int .i64 x.lc,.int .i64 x.le]
 dec:=fun l=>match l with | [.int _ a0,.int _ a1,.int _ a2,.int _ a3,.int _ a4,.int _ a5,.int _ a6,.int _ a7,.int _ a8,.int _ a9,.int _ a10,.int _ a11,.int _ a12,.int _ a13,.int _ a14,.int _ a15,.int _ a16,.int _ a17,.int _ a18,.int _ a19]=>F.cU.mk (F.dT.mk a0 a1 a2 a3 a4 a5 a6 a7 a8 a9 a10 a11 a12) a13 a14 a15 a16 a17 a18 a19 | _=>F.Mt
 ok:=fun l=>match l with | [.int .i64 _,.int .i64 _,.int .i64 _,.int .i64 _,.int .i64 _,.int .i64 _,.int .i64 _,.int .i64 _,.int .i64 _,.int .i64 _,.int .i64 _,.int .i64 _,.int .i64 _,.int .i64 _,.int .i64 _,.int .i64 _,.int .i64 _,.int .i64 _,.int .i64 _,.int .i64 _]=>true | _=>false
 size:=20
 d:=F.Mt
 size_eq:=fun _=>rfl
 l3:=fun _=>rfl
 ck:=fun e h=>by
  split at h
  ·rfl
  ·cases h
 pos:=Nat.zero_lt_succ _
def X6:aO where
 α:=F.dT
 enc:=fun x=>[.int .i64 x.id,.int .i64 x.st,.int .i64 x.tm,.int .i64 x.x,.int .i64 x.y,.int .i64 x.sx,.int .i64 x.sy,.int .i64 x.hg,.int .i64 x.rt,.int .i64 x.ra,.int .i64 x.cd,.int .i64 x.ht,.int .i64 x.ms]
 dec:=fun l=>match l with | [.int _ a0,.int _ a1,.int _ a2,.int _ a3,.int _ a4,.int _ a5,.int _ a6,.int _ a7,.int _ a8,.int _ a9,.int _ a10,.int _ a11,.int _ a12]=>F.dT.mk a0 a1 a2 a3 a4 a5 a6 a7 a8 a9 a10 a11 a12 | _=>F.zO
 ok:=fun l=>match l with | [.int .i64 _,.int .i64 _,.int .i64 _,.int .i64 _,.int .i64 _,.int .i64 _,.int .i64 _,.int .i64 _,.int .i64 _,.int .i64 _,.int .i64 _,.int .i64 _,.int .i64 _]=>true | _=>false
 size:=13
 d:=F.zO
 size_eq:=fun _=>rfl
 l3:=fun _=>rfl
 ck:=fun e h=>by
  split at h
  ·rfl
  ·cases h
 pos:=Nat.zero_lt_succ _
def FB:aO where
 α:=F.bJ
 enc:=fun x=>[.int .i64 x.f.t.id,.int .i64 x.f.t.st,.int .i64 x.f.t.tm,.int .i64 x.f.t.x,.int .i64 x.f.t.y,.int .i64 x.f.t.sx,.int .i64 x.f.t.sy,.int .i64 x.f.t.hg,.int .i64 x.f.t.rt,.int .i64 x.f.t.ra,.int .i64 x.f.t.cd,.int .i64 x.f.t.ht,.int .i64 x.f.t.ms,.int .i64 x.f.sl,.int .i64 x.f.lt,.int .i64 x.f.lx,.int .i64 x.f.ly,.int .i64 x.f.lh,.int .i64 x.f.lc,.int .i64 x.f.le,.int .i64 x.bh,.int .i64 x.bs,.bool x.fI]
 dec:=fun l=>match l with | [.int _ a0,.int _ a1,.int _ a2,.int _ a3,.int _ a4,.int _ a5,.int _ a6,.int _ a7,.int _ a8,.int _ a9,.int _ a10,.int _ a11,.int _ a12,.int _ a13,.int _ a14,.int _ a15,.int _ a16,.int _ a17,.int _ a18,.int _ a19,.int _ a20,.int _ a21,.bool b]=>F.bJ.mk (F.cU.mk (F.dT.mk a0 a1 a2 a3 a4 a5 a6 a7 a8 a9 a10 a11 a12) a13 a14 a15 a16 a17 a18 a19) a20 a21 b | _=>F.eK
 ok:=fun l=>match l with | [.int .i64 _,.int .i64 _,.int .i64 _,.int .i64 _,.int .i64 _,.int .i64 _,.int .i64 _,.int .i64 _,.int .i64 _,.int .i64 _,.int .i64 _,.int .i64 _,.int .i64 _,.int .i64 _,.int .i64 _,.int .i64 _,.int .i64 _,.int .i64 _,.int .i64 _,.int .i64 _,.int .i64 _,.int .i64 _,.bool _]=>true | _=>false
 size:=23
 d:=F.eK
 size_eq:=fun _=>rfl
 l3:=fun _=>rfl
 ck:=fun e h=>by
  split at h
  ·rfl
  ·cases h
 pos:=Nat.zero_lt_succ _
noncomputable def cod:Nat→aO
 | 0=>afq
 | 1=>c2
 | 2=>c6
 | 3=>aei
 | 4=>ko
 | 5=>X6
 | 6=>FB
 | _=>afq
def aen:List (TypeId×Nat):=[(3,0),(40,1),(68,2),(42,2),(64,2),(58,2),(4,3),(54,4),(50,5),(81,6)]
def ctg (t:TypeId):Option Nat:=(aen.find? fun p=>p.1==t).map (·.2)
def afw:List FuncId:=[20,21,23,10,26,67,25,5,13,16,8,4,9]
set_option maxRecDepth 100000
set_option maxHeartbeats 4000000
def c9 (L:aQ cod):aT cod:={P:=Tryz.prog,tv:=ctg,lB:=nF L,Ch:=nE L,quiet:=fun g=>!afw.contains g,wrap:=false}
def As (L:aQ cod):aT cod:={P:=Tryz.prog,tv:=ctg,lB:=nF L,Ch:=nE L,quiet:=fun g=>!afw.contains g,wrap:=true}
def L_0:aQ cod:=[]
def C_0:aT cod:=c9 L_0
theorem RX:cv Tryz.prog cod L_0:=.nil
theorem mixed:Tryz.prog.follows .mixedOrders=true:=by kernel_rfl
namespace F
def de (n lo hi:Int):Bool:=decide (lo≤n)&&decide (n≤hi)
def out (n lo hi:Int):Bool:=decide (n < lo)||decide (hi < n)
def pt (x y:Int):Int:=if de x (-1000000) 1000000&&de y (-1000000) 1000000 then 0 else 4
def cP (x y:Int):Bool:=de x (-1000000) 1000000&&de y (-1000000) 1000000
def iD (a b c d e f:Int):Int:=if de a 0 255&&(cP b c&&(de d 1 1000000&&(de e 1 10000&&de f 1 100))) then 0 else 4
def qa (a b c d e f:Int):Int:=if de a 0 255&&(de b 0 200000&&(de c 0 2000000&&(de d 0 4095&&(de e 0 60000&&de f (-1) 4095)))) then 0 else 4
def spot (a b c d e f:Int):Int:=if de a 0 200000&&(cP b c&&(de d 0 60000&&(de e (-1) 4095&&de f 0 1000000))) then 0 else 4
end F
def Wv:aH cod:=fun args H=>match H with
 | []=>match rd args with
   | some [[n],[lo],[hi]]=>(.ret (.c (.bool (F.out n lo hi)),[]))
   | _=>.fail
 | _=>.fail
theorem VK (n lo hi:Int):aI C_0 [] Tryz.f72.results.toList ([]:Heap cod).length 400 [.code (aj Tryz.f72)] ⟨ay Tryz.f72 [.c (.int .i64 n),.c (.int .i64 lo),.c (.int .i64 hi)],[]⟩=
 cond (decide (n < lo)) (
 .ret (.fin (.c (.bool true)) [])) (
 .ret (.fin (.c (.bool (decide (hi < n)))) [])):=by kernel_rfl
theorem Qp:Sound Tryz.prog cod 72 Wv:=aW (cfg:=C_0) RX mixed Tryz.func72 rfl rfl _ 400 fun args H r news hg=>by
 unfold Wv at hg;split at hg
 ·split at hg
  ·rename_i n lo hi dn;have aJ:=b8 dn;simp only [List.map,oS] at aJ;subst aJ;clear dn;rw [VK]
   try simp only [T.ah,T.wp,Prod.mk.injEq] at hg
   obtain ⟨rfl,rfl⟩:=hg;simp only [T.wp,T.wp_cond,Fin.fin.injEq,SV.c.injEq,Cell.bool.injEq,and_true,decide_eq_true_eq,F.out]
   (repeat' split)<;>simp_all<;>omega
  ·exact hg.elim
 ·exact hg.elim
def Sv:aQ cod:=(72,.p Wv)::L_0
def aaD:aT cod:=c9 Sv
theorem Fk:cv Tryz.prog cod Sv:=.cons Qp RX
def y6:aH cod:=fun args H=>match H with
 | []=>match rd args with
   | some [[_,x,y]]=>(.ret (.c (.int .i64 (F.pt x y)),[]))
   | _=>.fail
 | _=>.fail
theorem Ha (x y:Int):aI aaD [] Tryz.f73.results.toList ([]:Heap cod).length 400 [.code (aj Tryz.f73)] ⟨ay Tryz.f73 [.agg [.int .i64 x,.int .i64 y]],[]⟩=
 cond (decide (x < -1000000)) (
 .ret (.fin (.c (.int .i64 4)) [])) (
 cond (decide (1000000 < x)) (
  .ret (.fin (.c (.int .i64 4)) [])) (
  cond (decide (y < -1000000)) (
   .ret (.fin (.c (.int .i64 4)) [])) (
   cond (decide (1000000 < y)) (
    .ret (.fin (.c (.int .i64 4)) [])) (
    .ret (.fin (.c (.int .i64 0)) []))))):=by kernel_rfl
theorem D1:Sound Tryz.prog cod 73 y6:=aW (cfg:=aaD) Fk mixed Tryz.func73 rfl rfl _ 400 fun args H r news hg=>by
 unfold y6 at hg;split at hg
 ·split at hg
  ·rename_i _ x y dn;have aJ:=b8 dn;simp only [List.map,oS,ints,List.tail] at aJ;subst aJ;clear dn;rw [Ha]
   try simp only [T.ah,T.wp,Prod.mk.injEq] at hg
   obtain ⟨rfl,rfl⟩:=hg;simp only [T.wp,T.wp_cond,Fin.fin.injEq,SV.c.injEq,Cell.int.injEq,and_true,true_and,decide_eq_true_eq,F.pt,F.de]
   (repeat' split)<;>simp_all<;>omega
  ·exact hg.elim
 ·exact hg.elim
def wW:aQ cod:=(73,.p y6)::Sv
def E6:aT cod:=c9 wW
theorem uw:cv Tryz.prog cod wW:=.cons D1 Fk
theorem pt0 (x y:Int):(F.pt x y=0)=(F.de x (-1000000) 1000000=true∧F.de y (-1000000) 1000000=true):=by
 unfold F.pt;simp only [Bool.and_eq_true];split<;>simp_all
def y8:aH cod:=fun args H=>match H with
 | []=>match rd args with
   | some [[_,a,b,c,d,e,f]]=>(.ret (.c (.int .i64 (F.iD a b c d e f)),[]))
   | _=>.fail
 | _=>.fail
theorem He (a b c d e f:Int):aI E6 [] Tryz.f34.results.toList ([]:Heap cod).length 400 [.code (aj Tryz.f34)] ⟨ay Tryz.f34 [.agg [.int .i64 a,.int .i64 b,.int .i64 c,.int .i64 d,.int .i64 e,.int .i64 f]],[]⟩=
 cond (F.out a 0 255) (
 .ret (.fin (.c (.int .i64 4)) [])) (
 cond (!decide (F.pt b c=0)) (
  .ret (.fin (.c (.int .i64 4)) [])) (
  cond (F.out d 1 1000000) (
   .ret (.fin (.c (.int .i64 4)) [])) (
   cond (F.out e 1 10000) (
    .ret (.fin (.c (.int .i64 4)) [])) (
    cond (F.out f 1 100) (
     .ret (.fin (.c (.int .i64 4)) [])) (
     .ret (.fin (.c (.int .i64 0)) [])))))):=by kernel_rfl
theorem Ea:Sound Tryz.prog cod 34 y8:=aW (cfg:=E6) uw mixed Tryz.func34 rfl rfl _ 400 fun args H r news hg=>by
 unfold y8 at hg;split at hg
 ·split at hg
  ·rename_i _ a b c d e f dn;have aJ:=b8 dn;simp only [List.map,oS,ints,List.tail] at aJ;subst aJ;clear dn;rw [He]
   try simp only [T.ah,T.wp,Prod.mk.injEq] at hg
   obtain ⟨rfl,rfl⟩:=hg;simp only [T.wp,T.wp_cond,Fin.fin.injEq,SV.c.injEq,Cell.int.injEq,and_true,true_and,F.iD,pt0,F.cP,F.out,F.de]
   (repeat' split)<;>simp_all<;>omega
  ·exact hg.elim
 ·exact hg.elim
def xa:aQ cod:=(34,.p y8)::wW
def E7:aT cod:=c9 xa
theorem ux:cv Tryz.prog cod xa:=.cons Ea uw
def uc:aH cod:=fun args H=>match H with
 | []=>match rd args with
   | some [[_,a,b,c,d,e,f]]=>(.ret (.c (.int .i64 (F.qa a b c d e f)),[]))
   | _=>.fail
 | _=>.fail
theorem D0 (a b c d e f:Int):aI E7 [] Tryz.f40.results.toList ([]:Heap cod).length 400 [.code (aj Tryz.f40)] ⟨ay Tryz.f40 [.agg [.int .i64 a,.int .i64 b,.int .i64 c,.int .i64 d,.int .i64 e,.int .i64 f]],[]⟩=
 cond (F.out a 0 255) (
 .ret (.fin (.c (.int .i64 4)) [])) (
 cond (F.out b 0 200000) (
  .ret (.fin (.c (.int .i64 4)) [])) (
  cond (F.out c 0 2000000) (
   .ret (.fin (.c (.int .i64 4)) [])) (
   cond (F.out d 0 4095) (
    .ret (.fin (.c (.int .i64 4)) [])) (
    cond (F.out e 0 60000) (
     .ret (.fin (.c (.int .i64 4)) [])) (
     cond (F.out f (-1) 4095) (
      .ret (.fin (.c (.int .i64 4)) [])) (
      .ret (.fin (.c (.int .i64 0)) []))))))):=by kernel_rfl
theorem Ax:Sound Tryz.prog cod 40 uc:=aW (cfg:=E7) ux mixed Tryz.func40 rfl rfl _ 400 fun args H r news hg=>by
 unfold uc at hg;split at hg
 ·split at hg
  ·rename_i _ a b c d e f dn;have aJ:=b8 dn;simp only [List.map,oS,ints,List.tail] at aJ;subst aJ;clear dn;rw [D0]
   try simp only [T.ah,T.wp,Prod.mk.injEq] at hg
   obtain ⟨rfl,rfl⟩:=hg;simp only [T.wp,T.wp_cond,Fin.fin.injEq,SV.c.injEq,Cell.int.injEq,and_true,true_and,F.qa,F.out,F.de]
   (repeat' split)<;>simp_all<;>omega
  ·exact hg.elim
 ·exact hg.elim
def s8:aQ cod:=(40,.p uc)::xa
def AM:aT cod:=c9 s8
theorem qz:cv Tryz.prog cod s8:=.cons Ax ux
def tY:aH cod:=fun args H=>match H with
 | []=>match rd args with
   | some [[_,a,b,c,d,e,f]]=>(.ret (.c (.int .i64 (F.spot a b c d e f)),[]))
   | _=>.fail
 | _=>.fail
theorem C9 (a b c d e f:Int):aI AM [] Tryz.f35.results.toList ([]:Heap cod).length 400 [.code (aj Tryz.f35)] ⟨ay Tryz.f35 [.agg [.int .i64 a,.int .i64 b,.int .i64 c,.int .i64 d,.int .i64 e,.int .i64 f]],[]⟩=
 cond (F.out a 0 200000) (
 .ret (.fin (.c (.int .i64 4)) [])) (
 cond (!decide (F.pt b c=0)) (
  .ret (.fin (.c (.int .i64 4)) [])) (
  cond (F.out d 0 60000) (
   .ret (.fin (.c (.int .i64 4)) [])) (
   cond (F.out e (-1) 4095) (
    .ret (.fin (.c (.int .i64 4)) [])) (
    cond (F.out f 0 1000000) (
     .ret (.fin (.c (.int .i64 4)) [])) (
     .ret (.fin (.c (.int .i64 0)) [])))))):=by kernel_rfl
theorem Aj:Sound Tryz.prog cod 35 tY:=aW (cfg:=AM) qz mixed Tryz.func35 rfl rfl _ 400 fun args H r news hg=>by
 unfold tY at hg;split at hg
 ·split at hg
  ·rename_i _ a b c d e f dn;have aJ:=b8 dn;simp only [List.map,oS,ints,List.tail] at aJ;subst aJ;clear dn;rw [C9]
   try simp only [T.ah,T.wp,Prod.mk.injEq] at hg
   obtain ⟨rfl,rfl⟩:=hg;simp only [T.wp,T.wp_cond,Fin.fin.injEq,SV.c.injEq,Cell.int.injEq,and_true,true_and,F.spot,pt0,F.cP,F.out,F.de]
   (repeat' split)<;>simp_all<;>omega
  ·exact hg.elim
 ·exact hg.elim
def iY:aQ cod:=(35,.p tY)::s8
def cf:aT cod:=c9 iY
theorem bV:cv Tryz.prog cod iY:=.cons Aj qz
end
end
section
open Sym
theorem zP (a b:Int) (hb:0 < b):(a.tmod b≠0∧a < 0→a.tdiv b - 1=a / b)∧(a.tmod b=0∨0≤a→a.tdiv b=a / b):=by
 have h1:=Int.tmod_add_mul_tdiv a b;have h2:=Int.emod_add_mul_ediv a b;have h3:=Int.emod_nonneg a (show b≠0 by omega);have h4:=Int.emod_lt_of_pos a hb;constructor
 ·rintro ⟨hm,ha⟩
  have h5:a.tmod b < 0:=by
   have h9:a.tmod b= -((-a).tmod b):=by rw [Int.neg_tmod];omega
   have Ap:0≤(-a).tmod b:=Int.tmod_nonneg b (by omega);omega
  have h6: -b < a.tmod b:=Int.lt_tmod_of_pos a hb
  have h7:(a / b - (a.tdiv b - 1))*b=a.tmod b+b - a % b:=by
   rw [Int.sub_mul,Int.sub_mul,Int.mul_comm (a / b),Int.mul_comm (a.tdiv b)];omega
  have h8:a / b - (a.tdiv b - 1)=0:=by
   rcases Int.lt_trichotomy (a / b - (a.tdiv b - 1)) 0 with h | h | h
   ·have:(a / b - (a.tdiv b - 1))*b≤-1*b:=Int.mul_le_mul_of_nonneg_right (by omega) (by omega);omega
   ·exact h
   ·have:1*b≤(a / b - (a.tdiv b - 1))*b:=Int.mul_le_mul_of_nonneg_right (by omega) (by omega);omega
  omega
 ·rintro (hm | ha)
  ·rw [hm,Int.zero_add] at h1;rw [←h1,Int.mul_tdiv_cancel_left _ (by omega),Int.mul_ediv_cancel_left _ (by omega)]
  ·exact Int.tdiv_eq_ediv_of_nonneg ha
theorem EP (a b:Int) (hb:0 < b) (ha:ae a):ae (a.tdiv b):=by
 obtain ⟨h0,h1⟩:=ha;rcases Int.le_total 0 a with h | h
 ·have h2:=Int.tdiv_eq_ediv_of_nonneg (b:=b) h;have h3:=Int.ediv_le_self b h;have h4:0≤a / b:=Int.ediv_nonneg h (by omega);unfold ae;omega
 ·have h2:a.tdiv b= -((-a).tdiv b):=by rw [Int.neg_tdiv];omega
  have h5:=Int.tdiv_eq_ediv_of_nonneg (a:=-a) (b:=b) (by omega);have h3:=Int.ediv_le_self (a:=-a) b (by omega);have h4:0≤(-a) / b:=Int.ediv_nonneg (by omega) (by omega);unfold ae;omega
theorem dP {x y a b:Int} (hx: -a≤x∧x≤a) (hy: -b≤y∧y≤b): -(a*b)≤x*y∧x*y≤a*b:=by
 have h:(x*y).natAbs≤a.natAbs*b.natAbs:=by
  rw [Int.natAbs_mul];exact Nat.mul_le_mul (by omega) (by omega)
 have h2:((a.natAbs*b.natAbs:Nat):Int)=a*b:=by
  rw [Int.natCast_mul,Int.natAbs_of_nonneg (by omega),Int.natAbs_of_nonneg (by omega)]
 omega
theorem jZ (x:Int):0≤x*x:=by
 rcases Int.le_total 0 x with h | h
 ·exact Int.mul_nonneg h h
 ·have:=Int.mul_nonneg (show 0≤-x by omega) (show 0≤-x by omega)
  rwa [Int.neg_mul_neg] at this
theorem rO {x a:Int} (hx: -a≤x∧x≤a):0≤x*x∧x*x≤a*a:=⟨jZ x,(dP hx hx).2⟩
theorem ab9 (a b:Int) (hb:0 < b) (ha:ae a):ae (a.tdiv b)∧ae (a.tdiv b*b)∧(a < a.tdiv b*b→a.tdiv b - 1=a / b∧ae (a.tdiv b - 1))∧(¬a < a.tdiv b*b→a.tdiv b=a / b):=by
 have h0:=EP a b hb ha;have h1:=Int.tmod_add_mul_tdiv a b;obtain ⟨h2,h3⟩:=zP a b hb;have h4:b*a.tdiv b=a.tdiv b*b:=Int.mul_comm _ _;have h5: -b < a.tmod b:=Int.lt_tmod_of_pos a hb;have h6:=Int.tmod_lt_of_pos a hb;have h7:0≤a→0≤a.tmod b:=fun h=>Int.tmod_nonneg b h
 have h8:a≤0→a.tmod b≤0:=fun h=>by
  have h9:a.tmod b= -((-a).tmod b):=by rw [Int.neg_tmod];omega
  have Ap:0≤(-a).tmod b:=Int.tmod_nonneg b (by omega);omega
 refine ⟨h0,?_,fun h=>?_,fun h=>?_⟩
 ·unfold ae at*;rcases Int.le_total 0 a with h | h
  ·have:=h7 h;have:0≤a.tdiv b*b:=Int.mul_nonneg (Int.tdiv_nonneg h (by omega)) (by omega);omega
  ·have:=h8 h;have h9:a.tdiv b= -((-a).tdiv b):=by rw [Int.neg_tdiv];omega
   have Ap:0≤(-a).tdiv b*b:=Int.mul_nonneg (Int.tdiv_nonneg (by omega) (by omega)) (by omega);have h11:a.tdiv b*b= -((-a).tdiv b*b):=by rw [h9,Int.neg_mul]
   omega
 ·have ha0:a < 0:=by
   rcases Int.le_total 0 a with h' | h'
   ·have:=h7 h';omega
   ·rcases Int.lt_or_eq_of_le h' with h'' | h''
    ·exact h''
    ·have:=h7 (by omega);omega
  have e:=h2 ⟨by omega,ha0⟩;refine ⟨e,?_⟩;have h9:=Int.emod_add_mul_ediv a b;have Ap:=Int.emod_nonneg a (show b≠0 by omega);rw [e];unfold ae at*
  have h11:a.tdiv b*b≤0:=by
   rcases Int.lt_or_le 0 (a.tdiv b*b) with h' | h'
   ·have:=h8 (by omega);have h9:a.tdiv b= -((-a).tdiv b):=by rw [Int.neg_tdiv];omega
    have Ap:0≤(-a).tdiv b*b:=Int.mul_nonneg (Int.tdiv_nonneg (by omega) (by omega)) (by omega);have h11:a.tdiv b*b= -((-a).tdiv b*b):=by rw [h9,Int.neg_mul]
    omega
   ·exact h'
  have h12:a≤a / b:=by
   have:=Int.ediv_le_self (a:=-a) b (by omega)
   have h13:=Int.le_ediv_of_mul_le hb (a:=a) (b:=a) (by
    have:a*b≤a*1:=Int.mul_le_mul_of_nonpos_left (by omega) (by omega);omega)
   exact h13
  omega
 ·refine h3 ?_;by_cases hm:a.tmod b=0
  ·exact .inl hm
  ·refine .inr ?_;rcases Int.le_total 0 a with h' | h'
   ·exact h'
   ·have:=h8 h';omega
theorem AB (a b:Int) (_:0 < b):a.tmod b=0↔a % b=0:=by
 rw [←Int.dvd_iff_tmod_eq_zero,←Int.dvd_iff_emod_eq_zero]
theorem X7 (a b:Int) (hb:0 < b):(a % b=0→a / b= -(-a / b))∧(a % b≠0→a / b+1= -(-a / b)):=by
 have h1:=Int.emod_add_mul_ediv a b;have h2:=Int.emod_nonneg a (show b≠0 by omega);have h3:=Int.emod_lt_of_pos a hb;have e1:b*(a / b)=a / b*b:=Int.mul_comm _ _;constructor
 ·intro h
  have: -a / b= -(a / b):=by
   rw [show -a= -(a / b)*b by rw [Int.neg_mul];omega];exact Int.mul_ediv_cancel _ (by omega)
  omega
 ·intro h
  have: -a / b= -(a / b) - 1:=by
   rw [show -a=(b - a % b)+(-(a / b) - 1)*b by rw [Int.sub_mul,Int.neg_mul];omega];rw [Int.add_mul_ediv_right _ _ (by omega),Int.ediv_eq_zero_of_lt (by omega) (by omega)];omega
  omega
theorem Dg (a b:Int) (hb:0 < b):(0≤a→0≤a / b∧a / b≤a)∧(a < 0→a≤a / b∧a / b < 0):=by
 refine ⟨fun h=>⟨Int.ediv_nonneg h (by omega),Int.ediv_le_self b h⟩,fun h=>⟨?_,Int.ediv_neg_of_neg_of_pos h hb⟩⟩
 exact Int.le_ediv_of_mul_le hb (by
  have:a*b≤a*1:=Int.mul_le_mul_of_nonpos_left (by omega) (by omega);omega)
theorem afW {a b:Int} (hb:0 < b) (h2:ae a) (h:ae (-a)):ae (-(-a / b)):=by
 obtain ⟨h3,h4⟩:=Dg (-a) b hb;unfold ae at*;rcases Int.lt_or_le (-a) 0 with h5 | h5
 ·have:=h4 h5;omega
 ·have:=h3 h5;omega
theorem Yr {a b:Int} (hb:0 < b) (h:ae a):ae (a / b):=by
 obtain ⟨h3,h4⟩:=Dg a b hb;unfold ae at*;rcases Int.lt_or_le a 0 with h5 | h5
 ·have:=h4 h5;omega
 ·have:=h3 h5;omega
theorem JU (a b:Int) (hb:0 < b) (ha:ae a):(a.tmod b≠0→a < 0→a.tdiv b - 1=a / b∧ae (a.tdiv b - 1))∧(a.tmod b=0∨0≤a→a.tdiv b=a / b):=by
 obtain ⟨h2,h3⟩:=zP a b hb;refine ⟨fun h h'=>?_,h3⟩;have:=h2 ⟨h,h'⟩;rw [this];exact ⟨rfl,Yr hb ha⟩
theorem bM {n:Int} (h:ae n):IntKind.wrap .i64 n=n:=by
 unfold ae at h;unfold IntKind.wrap;simp [IntKind.bits,IntKind.signed];omega
end
namespace Sym
open Go.RowKit
section
variable {cod:Nat→aO} {P:Program}
theorem af.go {cfg:aT cod} (hS:eL cfg) (hm:cfg.P.follows .mixedOrders=true) (cuts:bA) {b0:aC} {fn:Func} {r:SV} {news:Heap cod} (g:Nat) {N:Nat} (hb:b0.n=N) {k:List Item} {st:St cod} {t:T (Fin cod)}
 (ht:aI cfg cuts fn.results.toList N g k st=t) (h:t.wp (bF cfg.P b0 (Ends cfg.P fn N r news) r news)):af cfg.P b0 k st (Ends cfg.P fn N r news):=by
 subst hb;exact af.NM hS hm g ht h
theorem ax {cfg:aT cod} (_:eL cfg) (_:cfg.P.follows .mixedOrders=true) {f:FuncId} {fn:Func} (hf:cfg.P.funcs[f]? =some fn) (hb:fn.body.isSome=true) (jJ:(fn.name== "runtime.NumGoroutine")=false) (s:aH cod)
 (h:∀(args:List SV) (H:Heap cod) (r:SV) (news:Heap cod),(s args H).ah (r,news)→∀b0:aC,b0.n=H.length→af cfg.P b0 [.code (aj fn)] ⟨ay fn args,H⟩ (Ends cfg.P fn H.length r news)):Sound cfg.P cod f s:=
 zR hf hb jJ s fun args H r news hg b0 hn=>by
  have:=h args H r news hg b0 hn;rw [←hn] at this;exact this
theorem af.vU {cfg:aT cod} (hS:eL cfg) (hm:cfg.P.follows .mixedOrders=true) (cuts:bA) {b0:aC} {fn:Func} {r:SV} {H':Heap cod} (g:Nat) {H:Heap cod} (hb:b0.n=H.length) {k:List Item} {st:St cod} {t:T (Fin cod)}
 (ht:mD cfg cuts fn.results.toList H g k st=t) (h:t.wp (bF cfg.P b0 (eM cfg.P fn H r H') r H')):af cfg.P b0 k st (eM cfg.P fn H r H'):=af.Zx hS hm hb g ht h
def av.cV (t:Nat):av cod→Option (List (cod t).α)
 | .aB u l=>if h:u=t then some (h▸l) else none
 | _=>none
theorem aR {t:Nat} {o:av cod} {l:List (cod t).α} (h:o.cV t=some l):o= .aB t l:=by
 cases o<;>simp only [av.cV] at h<;>try cases h
 rename_i u l';split at h
 ·rename_i e;subst e;cases h;rfl
 ·cases h
def av.oV (t:Nat):av cod→Option (List (List (cod t).α))
 | .cL u LL none=>if h:u=t then some (h▸LL) else none
 | _=>none
theorem fM {t:Nat} {o:av cod} {LL:List (List (cod t).α)} (h:o.oV t=some LL):o= .cL t LL none:=by
 cases o<;>simp only [av.oV] at h<;>try cases h
 rename_i u l' op
 cases op with
 | some p=>cases h
 | none=>
   simp only [] at h;split at h
   ·rename_i e;subst e;cases h;rfl
   ·cases h
end
end Sym
namespace Sym
open Go.RowKit Go.Sort
theorem aq {c:Prop} [Decidable c] {a b:Prop} (h:c) (ha:a):if c then a else b:=by rw [if_pos h];exact ha
theorem ap {c:Prop} [Decidable c] {a b:Prop} (h:¬c) (hb:b):if c then a else b:=by rw [if_neg h];exact hb
section
variable {cod:Nat→aO} {P:Program}
end
end Sym
end Go.Proofs.YtcjagpfbhnmggaaGreatDoor
