/- Parts of the proof. -/
import Derived.Test.YtcjagpfbhnmggaaGreatDoorBd21
namespace Go.Proofs.YtcjagpfbhnmggaaGreatDoor
section
open Sym Go.RowKit
noncomputable section
set_option maxRecDepth 100000
set_option maxHeartbeats 4000000
namespace F
def lC (t x y h ra c:Int):Int:=if de t 0 200000&&(cP x y&&(de h 0 60000&&(de ra 0 4000000&&de c (-1) 4095))) then 0 else 4
def aM (i st t x y sx sy h r ra c hi mi sl lt lx ly lh lc le:Int):Int:=
 if lC t x y h ra c=0 then
  (if de sx (-12800) 12800=true then (if de sy (-12800) 12800=true then (if de r (-3200) 3200=true then (if de sl 0 409600=true then
    (if i < 0 then 4 else if hi < 0 then 4 else if mi < 0 then 4 else if de st 0 2=true then (if spot lt lx ly lh lc le=0 then (if t < lt then 12 else 0) else spot lt lx ly lh lc le) else 1)
  else 4) else 4) else 4) else 4)
 else lC t x y h ra c
def z (e v:Int):Int:=if e=0 then v else 0
def cC (i st t x y sx sy h r ra c hi mi sl lt lx ly lh lc le n:Int):Int:=if F.aM i st t x y sx sy h r ra c hi mi sl lt lx ly lh lc le=0 then (if de n 0 100 then 0 else 4) else F.aM i st t x y sx sy h r ra c hi mi sl lt lx ly lh lc le
def cs (n:Int):Int:=if n=1 then 2 else n
def ch (n:Int):Int:=if n=2 then 1 else n
def cm (n:Int):Int:=if n < 101 then n+1 else 101
end F
theorem gf {i st t x y sx sy h r ra c hi mi sl lt lx ly lh lc le:Int} (e:F.aM i st t x y sx sy h r ra c hi mi sl lt lx ly lh lc le=0):(0≤t∧t≤200000)∧(-1000000≤x∧x≤1000000)∧(-1000000≤y∧y≤1000000)∧(0≤h∧h≤60000)∧(0≤ra∧ra≤4000000)∧(-1≤c∧c≤4095)∧(-12800≤sx∧sx≤12800)∧(-12800≤sy∧sy≤12800)∧(-3200≤r∧r≤3200)∧
 (0≤sl∧sl≤409600)∧0≤i∧0≤hi∧0≤mi∧(0≤st∧st≤2)∧F.spot lt lx ly lh lc le=0∧lt≤t:=by
 unfold F.aM at e;by_cases h1:F.lC t x y h ra c=0
 ·rw [if_pos h1] at e;by_cases h2:F.de sx (-12800) 12800=true
  ·rw [if_pos h2] at e;by_cases h3:F.de sy (-12800) 12800=true
   ·rw [if_pos h3] at e;by_cases h4:F.de r (-3200) 3200=true
    ·rw [if_pos h4] at e;by_cases h5:F.de sl 0 409600=true
     ·rw [if_pos h5] at e;by_cases h6:i < 0
      ·rw [if_pos h6] at e;cases e
      rw [if_neg h6] at e;by_cases h7:hi < 0
      ·rw [if_pos h7] at e;cases e
      rw [if_neg h7] at e;by_cases h8:mi < 0
      ·rw [if_pos h8] at e;cases e
      rw [if_neg h8] at e;by_cases h9:F.de st 0 2=true
      ·rw [if_pos h9] at e;by_cases Ap:F.spot lt lx ly lh lc le=0
       ·rw [if_pos Ap] at e;by_cases h11:t < lt
        ·rw [if_pos h11] at e;cases e
        unfold F.lC F.cP F.de at h1;split at h1
        ·rename_i h12;unfold F.de at h2 h3 h4 h5 h9;simp only [Bool.and_eq_true,decide_eq_true_eq] at h2 h3 h4 h5 h9 h12;refine ⟨?_,?_,?_,?_,?_,?_,?_,?_,?_,?_,?_,?_,?_,?_,Ap,?_⟩<;>omega
        ·cases h1
       ·rw [if_neg Ap] at e;exact absurd e Ap
      ·rw [if_neg h9] at e;cases e
     ·rw [if_neg h5] at e;cases e
    ·rw [if_neg h4] at e;cases e
   ·rw [if_neg h3] at e;cases e
  ·rw [if_neg h2] at e;cases e
 ·rw [if_neg h1] at e;exact absurd e h1
theorem DZ (n lo hi:Int):F.out n lo hi=!F.de n lo hi:=by
 unfold F.out F.de;by_cases h1:n < lo
 ·have:¬lo≤n:=by omega
  simp [h1,this]
 ·have:lo≤n:=by omega
  by_cases h2:hi < n
  ·have:¬n≤hi:=by omega
   simp [*]
  ·have:n≤hi:=by omega
   simp [*]
theorem lz {a b c d e f:Int} (h:F.spot a b c d e f=0):(0≤a∧a≤200000)∧(-1000000≤b∧b≤1000000)∧(-1000000≤c∧c≤1000000)∧(0≤d∧d≤60000)∧(-1≤e∧e≤4095)∧(0≤f∧f≤1000000):=by
 unfold F.spot F.cP F.de at h;split at h
 ·simp only [Bool.and_eq_true,decide_eq_true_eq] at*;omega
 ·cases h
def La:aH cod:=fun args H=>match H with
 | []=>match rd args with
   | some [[n],[lo],[hi]]=>(.ret (.c (.bool (F.out n lo hi)),[]))
   | _=>.fail
 | _=>.fail
theorem Pe (n lo hi:Int):aI jl [] Tryz.f54.results.toList ([]:Heap cod).length 400 [.code (aj Tryz.f54)] ⟨ay Tryz.f54 [.c (.int .i64 n),.c (.int .i64 lo),.c (.int .i64 hi)],[]⟩=
 cond (decide (n < lo)) (
 .ret (.fin (.c (.bool true)) [])) (
 .ret (.fin (.c (.bool (decide (hi < n)))) [])):=by kernel_rfl
theorem J0:Sound Tryz.prog cod 54 La:=aW (cfg:=jl) eQ mixed Tryz.func54 rfl rfl _ 400 fun args H r news hg=>by
 unfold La at hg;split at hg
 ·split at hg
  ·rename_i n lo hi dn;have aJ:=b8 dn;simp only [List.map,oS] at aJ;subst aJ;clear dn;rw [Pe]
   try simp only [T.ah,T.wp,Prod.mk.injEq] at hg
   obtain ⟨rfl,rfl⟩:=hg;simp only [T.wp,T.wp_cond,Fin.fin.injEq,SV.c.injEq,Cell.bool.injEq,and_true,decide_eq_true_eq,F.out]
   (repeat' split)<;>simp_all<;>omega
  ·exact hg.elim
 ·exact hg.elim
def IR:aQ cod:=(54,.p La)::mO
def RM:aT cod:=c9 IR
theorem AQ:cv Tryz.prog cod IR:=.cons J0 eQ
def yV:aH cod:=fun args H=>match H with
 | []=>match rd args with
   | some [[_,_,_,t,x,y,_,_,h,_,ra,c,_,_]]=>(.ret (.c (.int .i64 (F.lC t x y h ra c)),[]))
   | _=>.fail
 | _=>.fail
theorem FQ (i st t x y sx sy h r ra c hi mi:Int):aI RM [] Tryz.f91.results.toList ([]:Heap cod).length 400 [.code (aj Tryz.f91)] ⟨ay Tryz.f91 [.agg [.int .i64 i,.int .i64 st,.int .i64 t,.int .i64 x,.int .i64 y,.int .i64 sx,.int .i64 sy,.int .i64 h,.int .i64 r,.int .i64 ra,.int .i64 c,.int .i64 hi,.int .i64 mi]],[]⟩=
 cond (!decide (F.spot t x y h c 0=0)) (
 .ret (.fin (.c (.int .i64 4)) [])) (
 cond (decide (ra < 0)) (
  .ret (.fin (.c (.int .i64 4)) [])) (
  cond (decide (4000000 < ra)) (
   .ret (.fin (.c (.int .i64 4)) [])) (
   .ret (.fin (.c (.int .i64 0)) [])))):=by kernel_rfl
theorem qN:Sound Tryz.prog cod 91 yV:=aW (cfg:=RM) AQ mixed Tryz.func91 rfl rfl _ 400 fun args H r news hg=>by
 unfold yV at hg;split at hg
 ·split at hg
  ·rename_i _ i st t x y sx sy h r ra c hi mi dn;have aJ:=b8 dn;simp only [List.map,oS,ints,List.tail] at aJ;subst aJ;clear dn;rw [FQ];simp only [T.ah,T.wp,Prod.mk.injEq] at hg;obtain ⟨rfl,rfl⟩:=hg;simp only [T.wp,T.wp_cond,Fin.fin.injEq,SV.c.injEq,Cell.int.injEq,and_true,true_and,decide_eq_true_eq];have h0:F.de 0 0 1000000=true:=by decide
   have h1:F.de ra 0 4000000=(!decide (ra < 0)&&!decide (4000000 < ra)):=by
    unfold F.de;by_cases g1:ra < 0<;>by_cases g2:4000000 < ra<;>simp [g1,g2]<;>omega
   unfold F.lC F.spot;rw [h0,h1];cases F.de t 0 200000<;>cases F.cP x y<;>cases F.de h 0 60000<;>cases F.de c (-1) 4095<;>by_cases g1:ra < 0<;>by_cases g2:4000000 < ra<;>simp [g1,g2]
  ·exact hg.elim
 ·exact hg.elim
def wL:aQ cod:=(91,.p yV)::IR
def E4:aT cod:=c9 wL
theorem uu:cv Tryz.prog cod wL:=.cons qN AQ
def yW:aH cod:=fun args H=>match H with
 | []=>match rd args with
   | some [[_,i,st,t,x,y,sx,sy,h,r,ra,c,hi,mi,sl,lt,lx,ly,lh,lc,le]]=>(.ret (.c (.int .i64 (F.aM i st t x y sx sy h r ra c hi mi sl lt lx ly lh lc le)),[]))
   | _=>.fail
 | _=>.fail
theorem F7 (i st t x y sx sy h r ra c hi mi sl lt lx ly lh lc le:Int):aI E4 [] Tryz.f53.results.toList ([]:Heap cod).length 400 [.code (aj Tryz.f53)] ⟨ay Tryz.f53 [.agg [.int .i64 i,.int .i64 st,.int .i64 t,.int .i64 x,.int .i64 y,.int .i64 sx,.int .i64 sy,.int .i64 h,.int .i64 r,.int .i64 ra,.int .i64 c,.int .i64 hi,.int .i64 mi,.int .i64 sl,.int .i64 lt,.int .i64 lx,.int .i64 ly,.int .i64 lh,.int .i64 lc,.int .i64 le]],[]⟩=
 cond (!decide (F.lC t x y h ra c=0)) (
 .ret (.fin (.c (.int .i64 (F.lC t x y h ra c))) [])) (
 cond (F.out sx (-12800) 12800) (
  .ret (.fin (.c (.int .i64 4)) [])) (
  cond (F.out sy (-12800) 12800) (
   .ret (.fin (.c (.int .i64 4)) [])) (
   cond (F.out r (-3200) 3200) (
    .ret (.fin (.c (.int .i64 4)) [])) (
    cond (F.out sl 0 409600) (
     .ret (.fin (.c (.int .i64 4)) [])) (
     cond (decide (i < 0)) (
      .ret (.fin (.c (.int .i64 4)) [])) (
      cond (decide (hi < 0)) (
       .ret (.fin (.c (.int .i64 4)) [])) (
       cond (decide (mi < 0)) (
        .ret (.fin (.c (.int .i64 4)) [])) (
        cond (F.out st 0 2) (
         .ret (.fin (.c (.int .i64 1)) [])) (
         cond (!decide (F.spot lt lx ly lh lc le=0)) (
          .ret (.fin (.c (.int .i64 (F.spot lt lx ly lh lc le))) [])) (
          cond (decide (t < lt)) (
           .ret (.fin (.c (.int .i64 12)) [])) (
           .ret (.fin (.c (.int .i64 0)) [])))))))))))):=by kernel_rfl
theorem rh:Sound Tryz.prog cod 53 yW:=aW (cfg:=E4) uu mixed Tryz.func53 rfl rfl _ 400 fun args H r news hg=>by
 unfold yW at hg;split at hg
 ·split at hg
  ·rename_i _ i st t x y sx sy h r ra c hi mi sl lt lx ly lh lc le dn;have aJ:=b8 dn;simp only [List.map,oS,ints,List.tail] at aJ;subst aJ;clear dn;rw [F7]
   try simp only [T.ah,T.wp,Prod.mk.injEq] at hg
   obtain ⟨rfl,rfl⟩:=hg;simp only [T.wp,T.wp_cond,Fin.fin.injEq,SV.c.injEq,Cell.int.injEq,and_true,true_and,decide_eq_true_eq,F.aM,DZ]
   (repeat' split)<;>simp_all<;>omega
  ·exact hg.elim
 ·exact hg.elim
def qx:aQ cod:=(53,.p yW)::wL
def iq:aT cod:=c9 qx
theorem eN:cv Tryz.prog cod qx:=.cons rh uu
def Lh:aH cod:=fun args H=>match H with
 | []=>match rd args with
   | some [[_,i,st,t,x,y,sx,sy,h,r,ra,c,hi,mi,sl,lt,lx,ly,lh,lc,le],[n]]=>(.ret (.aP [.agg [.int .i64 (F.z (F.cC i st t x y sx sy h r ra c hi mi sl lt lx ly lh lc le n) i),.int .i64 (F.z (F.cC i st t x y sx sy h r ra c hi mi sl lt lx ly lh lc le n) (F.cs st)),.int .i64 (F.z (F.cC i st t x y sx sy h r ra c hi mi sl lt lx ly lh lc le n) t),.int .i64 (F.z (F.cC i st t x y sx sy h r ra c hi mi sl lt lx ly lh lc le n) x),.int .i64 (F.z (F.cC i st t x y sx sy h r ra c hi mi sl lt lx ly lh lc le n) y),.int .i64 (F.z (F.cC i st t x y sx sy h r ra c hi mi sl lt lx ly lh lc le n) sx),.int .i64 (F.z (F.cC i st t x y sx sy h r ra c hi mi sl lt lx ly lh lc le n) sy),.int .i64 (F.z (F.cC i st t x y sx sy h r ra c hi mi sl lt lx ly lh lc le n) h),.int .i64 (F.z (F.cC i st t x y sx sy h r ra c hi mi sl lt lx ly lh lc le n) r),.int .i64 (F.z (F.cC i st t x y sx sy h r ra c hi mi sl lt lx ly lh lc le n) ra),.int .i64 (F.z (F.cC i st t x y sx sy h r ra c hi mi sl lt lx ly lh lc le n) c),.int .i64 (F.z (F.cC i st t x y sx sy h r ra c hi mi sl lt lx ly lh lc le n) hi),.int .i64 (F.z (F.cC i st t x y sx sy h r ra c hi mi sl lt lx ly lh lc le n) (F.cm mi)),.int .i64 (F.z (F.cC i st t x y sx sy h r ra c hi mi sl lt lx ly lh lc le n) sl),.int .i64 (F.z (F.cC i st t x y sx sy h r ra c hi mi sl lt lx ly lh lc le n) lt),.int .i64 (F.z (F.cC i st t x y sx sy h r ra c hi mi sl lt lx ly lh lc le n) lx),.int .i64 (F.z (F.cC i st t x y sx sy h r ra c hi mi sl lt lx ly lh lc le n) ly),.int .i64 (F.z (F.cC i st t x y sx sy h r ra c hi mi sl lt lx ly lh lc le n) lh),.int .i64 (F.z (F.cC i st t x y sx sy h r ra c hi mi sl lt lx ly lh lc le n) lc),.int .i64 (F.z (F.cC i st t x y sx sy h r ra c hi mi sl lt lx ly lh lc le n) le)],.c (.bool (decide (F.cC i st t x y sx sy h r ra c hi mi sl lt lx ly lh lc le n=0)&&decide (n < F.cm mi))),.c (.int .i64 (F.cC i st t x y sx sy h r ra c hi mi sl lt lx ly lh lc le n))],[]))
   | _=>.fail
 | _=>.fail
theorem PZ (i st t x y sx sy h r ra c hi mi sl lt lx ly lh lc le n:Int):aI iq [] Tryz.f29.results.toList ([]:Heap cod).length 400 [.code (aj Tryz.f29)] ⟨ay Tryz.f29 [.agg [.int .i64 i,.int .i64 st,.int .i64 t,.int .i64 x,.int .i64 y,.int .i64 sx,.int .i64 sy,.int .i64 h,.int .i64 r,.int .i64 ra,.int .i64 c,.int .i64 hi,.int .i64 mi,.int .i64 sl,.int .i64 lt,.int .i64 lx,.int .i64 ly,.int .i64 lh,.int .i64 lc,.int .i64 le],.c (.int .i64 n)],[]⟩=
 cond (!decide (F.aM i st t x y sx sy h r ra c hi mi sl lt lx ly lh lc le=0)) (
 .ret (.fin (.aP [.agg [.int .i64 0,.int .i64 0,.int .i64 0,.int .i64 0,.int .i64 0,.int .i64 0,.int .i64 0,.int .i64 0,.int .i64 0,.int .i64 0,.int .i64 0,.int .i64 0,.int .i64 0,.int .i64 0,.int .i64 0,.int .i64 0,.int .i64 0,.int .i64 0,.int .i64 0,.int .i64 0],.c (.bool false),.c (.int .i64 (F.aM i st t x y sx sy h r ra c hi mi sl lt lx ly lh lc le))]) [])) (
 cond (decide (n < 0)) (
  .ret (.fin (.aP [.agg [.int .i64 0,.int .i64 0,.int .i64 0,.int .i64 0,.int .i64 0,.int .i64 0,.int .i64 0,.int .i64 0,.int .i64 0,.int .i64 0,.int .i64 0,.int .i64 0,.int .i64 0,.int .i64 0,.int .i64 0,.int .i64 0,.int .i64 0,.int .i64 0,.int .i64 0,.int .i64 0],.c (.bool false),.c (.int .i64 4)]) [])) (
  cond (decide (100 < n)) (
   .ret (.fin (.aP [.agg [.int .i64 0,.int .i64 0,.int .i64 0,.int .i64 0,.int .i64 0,.int .i64 0,.int .i64 0,.int .i64 0,.int .i64 0,.int .i64 0,.int .i64 0,.int .i64 0,.int .i64 0,.int .i64 0,.int .i64 0,.int .i64 0,.int .i64 0,.int .i64 0,.int .i64 0,.int .i64 0],.c (.bool false),.c (.int .i64 4)]) [])) (
   cond (decide (mi < 101)) (
    .aa (ae (mi+1)) (
    cond (decide (st=1)) (
     .ret (.fin (.aP [.agg [.int .i64 i,.int .i64 2,.int .i64 t,.int .i64 x,.int .i64 y,.int .i64 sx,.int .i64 sy,.int .i64 h,.int .i64 r,.int .i64 ra,.int .i64 c,.int .i64 hi,.int .i64 (mi+1),.int .i64 sl,.int .i64 lt,.int .i64 lx,.int .i64 ly,.int .i64 lh,.int .i64 lc,.int .i64 le],.c (.bool (decide (n < mi+1))),.c (.int .i64 0)]) [])) (
     .ret (.fin (.aP [.agg [.int .i64 i,.int .i64 st,.int .i64 t,.int .i64 x,.int .i64 y,.int .i64 sx,.int .i64 sy,.int .i64 h,.int .i64 r,.int .i64 ra,.int .i64 c,.int .i64 hi,.int .i64 (mi+1),.int .i64 sl,.int .i64 lt,.int .i64 lx,.int .i64 ly,.int .i64 lh,.int .i64 lc,.int .i64 le],.c (.bool (decide (n < mi+1))),.c (.int .i64 0)]) [])))) (
    cond (decide (st=1)) (
     .ret (.fin (.aP [.agg [.int .i64 i,.int .i64 2,.int .i64 t,.int .i64 x,.int .i64 y,.int .i64 sx,.int .i64 sy,.int .i64 h,.int .i64 r,.int .i64 ra,.int .i64 c,.int .i64 hi,.int .i64 101,.int .i64 sl,.int .i64 lt,.int .i64 lx,.int .i64 ly,.int .i64 lh,.int .i64 lc,.int .i64 le],.c (.bool (decide (n < 101))),.c (.int .i64 0)]) [])) (
     .ret (.fin (.aP [.agg [.int .i64 i,.int .i64 st,.int .i64 t,.int .i64 x,.int .i64 y,.int .i64 sx,.int .i64 sy,.int .i64 h,.int .i64 r,.int .i64 ra,.int .i64 c,.int .i64 hi,.int .i64 101,.int .i64 sl,.int .i64 lt,.int .i64 lx,.int .i64 ly,.int .i64 lh,.int .i64 lc,.int .i64 le],.c (.bool (decide (n < 101))),.c (.int .i64 0)]) [])))))):=by kernel_rfl
theorem yA:Sound Tryz.prog cod 29 Lh:=aW (cfg:=iq) eN mixed Tryz.func29 rfl rfl _ 400 fun args H r news hg=>by
 unfold Lh at hg;split at hg
 ·split at hg
  ·rename_i _ i st t x y sx sy h r ra c hi mi sl lt lx ly lh lc le n dn;have aJ:=b8 dn;simp only [List.map,oS,ints,List.tail] at aJ;subst aJ;clear dn;rw [PZ];simp only [T.ah,T.wp,Prod.mk.injEq] at hg;obtain ⟨rfl,rfl⟩:=hg;simp only [T.wp,T.wp_cond,Fin.fin.injEq,SV.c.injEq,SV.aP.injEq,SV.agg.injEq,List.cons.injEq,Cell.bool.injEq,Cell.int.injEq,and_true,true_and,decide_eq_true_eq];have hb:=gf (i:=i) (st:=st) (t:=t) (x:=x) (y:=y) (sx:=sx) (sy:=sy) (h:=h) (r:=r) (ra:=ra) (c:=c) (hi:=hi) (mi:=mi) (sl:=sl) (lt:=lt) (lx:=lx) (ly:=ly) (lh:=lh) (lc:=lc) (le:=le);have hm:F.cC i st t x y sx sy h r ra c hi mi sl lt lx ly lh lc le n=if F.aM i st t x y sx sy h r ra c hi mi sl lt lx ly lh lc le=0 then (if F.de n 0 100=true then 0 else 4) else F.aM i st t x y sx sy h r ra c hi mi sl lt lx ly lh lc le:=rfl
   generalize F.aM i st t x y sx sy h r ra c hi mi sl lt lx ly lh lc le=E at*;generalize F.cC i st t x y sx sy h r ra c hi mi sl lt lx ly lh lc le n=M at*;by_cases he:E=0
   ·have hb:=hb he
    have ho:mi < 101→ae (mi+1):=by
     unfold ae;omega
    have h0:n < 0→F.de n 0 100=false:=fun h=>by
     unfold F.de;simp;omega
    have h1:100 < n→F.de n 0 100=false:=fun h=>by
     unfold F.de;simp;omega
    have h2:¬n < 0→¬100 < n→F.de n 0 100=true:=fun h h'=>by
     unfold F.de;simp;omega
    by_cases g1:n < 0
    ·simp [he,hm,g1,h0 g1,F.z]
    ·by_cases g2:100 < n
     ·simp [he,hm,g1,g2,h1 g2,F.z]
     ·by_cases g3:mi < 101
      ·by_cases g4:st=1<;>simp [he,hm,g1,g2,g3,g4,h2 g1 g2,ho g3,F.z,F.cs,F.cm]
      ·by_cases g4:st=1<;>simp [he,hm,g1,g2,g3,g4,h2 g1 g2,F.z,F.cs,F.cm]
   ·simp [hm,he,F.z]
  ·exact hg.elim
 ·exact hg.elim
def IV:aQ cod:=(29,.p Lh)::qx
def RQ:aT cod:=c9 IV
theorem AR:cv Tryz.prog cod IV:=.cons yA eN
def Wm:aH cod:=fun args H=>match H with
 | []=>match rd args with
   | some [[_,i,st,t,x,y,sx,sy,h,r,ra,c,hi,mi,sl,lt,lx,ly,lh,lc,le]]=>(.ret (.aP [.agg [.int .i64 (F.z (F.aM i st t x y sx sy h r ra c hi mi sl lt lx ly lh lc le) i),.int .i64 (F.z (F.aM i st t x y sx sy h r ra c hi mi sl lt lx ly lh lc le) (F.ch st)),.int .i64 (F.z (F.aM i st t x y sx sy h r ra c hi mi sl lt lx ly lh lc le) t),.int .i64 (F.z (F.aM i st t x y sx sy h r ra c hi mi sl lt lx ly lh lc le) x),.int .i64 (F.z (F.aM i st t x y sx sy h r ra c hi mi sl lt lx ly lh lc le) y),.int .i64 (F.z (F.aM i st t x y sx sy h r ra c hi mi sl lt lx ly lh lc le) sx),.int .i64 (F.z (F.aM i st t x y sx sy h r ra c hi mi sl lt lx ly lh lc le) sy),.int .i64 (F.z (F.aM i st t x y sx sy h r ra c hi mi sl lt lx ly lh lc le) h),.int .i64 (F.z (F.aM i st t x y sx sy h r ra c hi mi sl lt lx ly lh lc le) r),.int .i64 (F.z (F.aM i st t x y sx sy h r ra c hi mi sl lt lx ly lh lc le) ra),.int .i64 (F.z (F.aM i st t x y sx sy h r ra c hi mi sl lt lx ly lh lc le) c),.int .i64 (F.z (F.aM i st t x y sx sy h r ra c hi mi sl lt lx ly lh lc le) hi),.int .i64 (F.z (F.aM i st t x y sx sy h r ra c hi mi sl lt lx ly lh lc le) 0),.int .i64 (F.z (F.aM i st t x y sx sy h r ra c hi mi sl lt lx ly lh lc le) sl),.int .i64 (F.z (F.aM i st t x y sx sy h r ra c hi mi sl lt lx ly lh lc le) lt),.int .i64 (F.z (F.aM i st t x y sx sy h r ra c hi mi sl lt lx ly lh lc le) lx),.int .i64 (F.z (F.aM i st t x y sx sy h r ra c hi mi sl lt lx ly lh lc le) ly),.int .i64 (F.z (F.aM i st t x y sx sy h r ra c hi mi sl lt lx ly lh lc le) lh),.int .i64 (F.z (F.aM i st t x y sx sy h r ra c hi mi sl lt lx ly lh lc le) lc),.int .i64 (F.z (F.aM i st t x y sx sy h r ra c hi mi sl lt lx ly lh lc le) le)],.c (.int .i64 (F.aM i st t x y sx sy h r ra c hi mi sl lt lx ly lh lc le))],[]))
   | _=>.fail
 | _=>.fail
theorem Un (i st t x y sx sy h r ra c hi mi sl lt lx ly lh lc le:Int):aI RQ [] Tryz.f28.results.toList ([]:Heap cod).length 400 [.code (aj Tryz.f28)] ⟨ay Tryz.f28 [.agg [.int .i64 i,.int .i64 st,.int .i64 t,.int .i64 x,.int .i64 y,.int .i64 sx,.int .i64 sy,.int .i64 h,.int .i64 r,.int .i64 ra,.int .i64 c,.int .i64 hi,.int .i64 mi,.int .i64 sl,.int .i64 lt,.int .i64 lx,.int .i64 ly,.int .i64 lh,.int .i64 lc,.int .i64 le]],[]⟩=
 cond (!decide (F.aM i st t x y sx sy h r ra c hi mi sl lt lx ly lh lc le=0)) (
 .ret (.fin (.aP [.agg [.int .i64 0,.int .i64 0,.int .i64 0,.int .i64 0,.int .i64 0,.int .i64 0,.int .i64 0,.int .i64 0,.int .i64 0,.int .i64 0,.int .i64 0,.int .i64 0,.int .i64 0,.int .i64 0,.int .i64 0,.int .i64 0,.int .i64 0,.int .i64 0,.int .i64 0,.int .i64 0],.c (.int .i64 (F.aM i st t x y sx sy h r ra c hi mi sl lt lx ly lh lc le))]) [])) (
 cond (decide (st=2)) (
  .ret (.fin (.aP [.agg [.int .i64 i,.int .i64 1,.int .i64 t,.int .i64 x,.int .i64 y,.int .i64 sx,.int .i64 sy,.int .i64 h,.int .i64 r,.int .i64 ra,.int .i64 c,.int .i64 hi,.int .i64 0,.int .i64 sl,.int .i64 lt,.int .i64 lx,.int .i64 ly,.int .i64 lh,.int .i64 lc,.int .i64 le],.c (.int .i64 0)]) [])) (
  .ret (.fin (.aP [.agg [.int .i64 i,.int .i64 st,.int .i64 t,.int .i64 x,.int .i64 y,.int .i64 sx,.int .i64 sy,.int .i64 h,.int .i64 r,.int .i64 ra,.int .i64 c,.int .i64 hi,.int .i64 0,.int .i64 sl,.int .i64 lt,.int .i64 lx,.int .i64 ly,.int .i64 lh,.int .i64 lc,.int .i64 le],.c (.int .i64 0)]) []))):=by kernel_rfl
theorem BA:Sound Tryz.prog cod 28 Wm:=aW (cfg:=RQ) AR mixed Tryz.func28 rfl rfl _ 400 fun args H r news hg=>by
 unfold Wm at hg;split at hg
 ·split at hg
  ·rename_i _ i st t x y sx sy h r ra c hi mi sl lt lx ly lh lc le dn;have aJ:=b8 dn;simp only [List.map,oS,ints,List.tail] at aJ;subst aJ;clear dn;rw [Un];simp only [T.ah,T.wp,Prod.mk.injEq] at hg;obtain ⟨rfl,rfl⟩:=hg;simp only [T.wp,T.wp_cond,Fin.fin.injEq,SV.c.injEq,SV.aP.injEq,SV.agg.injEq,List.cons.injEq,Cell.int.injEq,and_true,true_and,decide_eq_true_eq];generalize F.aM i st t x y sx sy h r ra c hi mi sl lt lx ly lh lc le=E;by_cases he:E=0
   ·by_cases g:st=2<;>simp [he,g,F.z,F.ch]
   ·simp [he,F.z]
  ·exact hg.elim
 ·exact hg.elim
def Sh:aQ cod:=(28,.p Wm)::IV
def aaB:aT cod:=c9 Sh
theorem Fg:cv Tryz.prog cod Sh:=.cons BA AR
namespace F
def kL (n lo hi:Int):Int:=if n < lo then lo else if hi < n then hi else n
def grown (sl a s:Int):Int:=if s=0 then 0 else -(-(sl*s) / 16)+ -(-(a*s*s) / 2)+2
def qb (sl a s:Int):Int:=if de sl 0 409600&&de a 0 20 then (if de s 0 600 then 0 else 12) else 4
def px (x s d:Int):Int:=x+s*d / 16
def ph (h r d:Int):Int:=kL (h+r*d / 16) 0 60000
def pr (ra sl a d:Int):Int:=ra+grown sl a d
def ps (sl a d:Int):Int:=sl+16*a*d
def cn (i st t x y sx sy h r ra c hi mi sl lt lx ly lh lc le n a:Int):Int:=if F.aM i st t x y sx sy h r ra c hi mi sl lt lx ly lh lc le=0 then (if de n 0 200000&&de a 0 20 then (if de (n - t) 0 600 then (if F.aM i st n (F.px x sx (n - t)) (F.px y sy (n - t)) sx sy (F.ph h r (n - t)) r (F.pr ra sl a (n - t)) c hi mi (F.ps sl a (n - t)) lt lx ly lh lc le=0 then 0 else 8) else 12) else 4) else F.aM i st t x y sx sy h r ra c hi mi sl lt lx ly lh lc le
end F
theorem Gh {sl a s:Int} (h1:0≤sl∧sl≤409600) (h2:0≤a∧a≤20) (h3:0≤s∧s≤600):(0≤sl*s∧sl*s≤245760000)∧(0≤a*s∧a*s≤12000)∧(0≤a*s*s∧a*s*s≤7200000):=by
 have k1:=dP (x:=sl) (y:=s) (a:=409600) (b:=600) (by omega) (by omega);have k2:=dP (x:=a) (y:=s) (a:=20) (b:=600) (by omega) (by omega);have n1:0≤sl*s:=Int.mul_nonneg (by omega) (by omega);have n2:0≤a*s:=Int.mul_nonneg (by omega) (by omega);have k3:=dP (x:=a*s) (y:=s) (a:=12000) (b:=600) (by omega) (by omega);have n3:0≤a*s*s:=Int.mul_nonneg n2 (by omega);omega
theorem J3 {sl a s:Int} (h1:0≤sl∧sl≤409600) (h2:0≤a∧a≤20) (h3:0≤s∧s≤600):ae (sl*s)∧ae (-(sl*s))∧ae (a*s)∧ae (a*s*s)∧ae (-(a*s*s))∧ae (-(-(sl*s) / 16)+ -(-(a*s*s) / 2))∧ae (-(-(sl*s) / 16)+ -(-(a*s*s) / 2)+2):=by
 obtain ⟨b1,b2,b3⟩:=Gh h1 h2 h3;generalize sl*s=p at*;generalize a*s*s=q at*;unfold ae;omega
theorem Gi {sl a s:Int} (h1:0≤sl∧sl≤409600) (h2:0≤a∧a≤20) (h3:0≤s∧s≤600):0≤F.grown sl a s∧F.grown sl a s≤20000000:=by
 unfold F.grown;obtain ⟨b1,b2,b3⟩:=Gh h1 h2 h3;generalize sl*s=p at*;generalize a*s*s=q at*;split<;>omega
theorem jk {n lo hi:Int} (h:n < lo∨hi < n):F.de n lo hi=false:=by
 unfold F.de;simp;omega
theorem bN {n lo hi:Int}:F.de n lo hi=true↔lo≤n∧n≤hi:=by
 unfold F.de;simp
theorem Qv {x y sx sy h r ra sl a d:Int} (hx: -1000000≤x∧x≤1000000) (hy: -1000000≤y∧y≤1000000) (hsx: -12800≤sx∧sx≤12800) (hsy: -12800≤sy∧sy≤12800) (hh:0≤h∧h≤60000) (hr: -3200≤r∧r≤3200) (DD:0≤ra∧ra≤4000000) (hsl:0≤sl∧sl≤409600) (ha:0≤a∧a≤20) (hd:0≤d∧d≤600):
 ae (sx*d)∧ae (sy*d)∧ae (x+sx*d / 16)∧ae (y+sy*d / 16)∧ae (r*d)∧ae (h+r*d / 16)∧ae (ra+F.grown sl a d)∧ae (16*a)∧ae (16*a*d)∧ae (sl+16*a*d):=by
 have k1:=dP (x:=sx) (y:=d) (a:=12800) (b:=600) (by omega) (by omega);have k2:=dP (x:=sy) (y:=d) (a:=12800) (b:=600) (by omega) (by omega);have k3:=dP (x:=r) (y:=d) (a:=3200) (b:=600) (by omega) (by omega);have k4:=dP (x:=16*a) (y:=d) (a:=320) (b:=600) (by omega) (by omega);have k5:=Gi hsl ha hd;generalize sx*d=p1 at*;generalize sy*d=p2 at*;generalize r*d=p3 at*;generalize 16*a*d=p4 at*;generalize F.grown sl a d=p5 at*;unfold ae;omega
theorem pred_zero {x sx h r ra sl a:Int} (hh:0≤h∧h≤60000):F.px x sx 0=x∧F.ph h r 0=h∧F.pr ra sl a 0=ra∧F.ps sl a 0=sl:=by
 unfold F.px F.ph F.pr F.ps F.kL F.grown;simp;omega
def Em:aH cod:=fun args H=>match H with
 | []=>match rd args with
   | some [[a],[b]]=>(.aa (0 < b∧ae a) (.ret (.c (.int .i64 (a / b)),[])))
   | _=>.fail
 | _=>.fail
theorem JP (a b:Int):aI aaB [] Tryz.f56.results.toList ([]:Heap cod).length 400 [.code (aj Tryz.f56)] ⟨ay Tryz.f56 [.c (.int .i64 a),.c (.int .i64 b)],[]⟩=
.aa (((0:Int) < b∧ae a)) (
.ret (.fin (.c (.int .i64 (a / b))) [])):=by kernel_rfl
theorem F8:Sound Tryz.prog cod 56 Em:=aW (cfg:=aaB) Fg mixed Tryz.func56 rfl rfl _ 400 fun args H r news hg=>by
 unfold Em at hg;split at hg
 ·split at hg
  ·rename_i a b dn;have aJ:=b8 dn;simp only [List.map,oS] at aJ;subst aJ;clear dn;rw [JP];simp only [T.ah,T.wp,Prod.mk.injEq] at hg;obtain ⟨⟨h1,h2⟩,rfl,rfl⟩:=hg;simp only [T.wp,and_true];exact ⟨h1,h2⟩
  ·exact hg.elim
 ·exact hg.elim
def CD:aQ cod:=(56,.p Em)::Sh
def MK:aT cod:=c9 CD
theorem wO:cv Tryz.prog cod CD:=.cons F8 Fg
def Wk:aH cod:=fun args H=>match H with
 | []=>match rd args with
   | some [[a],[b]]=>(.aa (0 < b∧ae a∧ae (-a)) (.ret (.c (.int .i64 (-(-a / b))),[])))
   | _=>.fail
 | _=>.fail
theorem T6 (a b:Int):aI MK [] Tryz.f65.results.toList ([]:Heap cod).length 400 [.code (aj Tryz.f65)] ⟨ay Tryz.f65 [.c (.int .i64 a),.c (.int .i64 b)],[]⟩=
.aa (((0:Int) < b∧(ae a∧ae (-a)))) (
.ret (.fin (.c (.int .i64 (-(-a / b)))) [])):=by kernel_rfl
theorem Pk:Sound Tryz.prog cod 65 Wk:=aW (cfg:=MK) wO mixed Tryz.func65 rfl rfl _ 400 fun args H r news hg=>by
 unfold Wk at hg;split at hg
 ·split at hg
  ·rename_i a b dn;have aJ:=b8 dn;simp only [List.map,oS] at aJ;subst aJ;clear dn;rw [T6];simp only [T.ah,T.wp,Prod.mk.injEq] at hg;obtain ⟨⟨h1,h2⟩,rfl,rfl⟩:=hg;simp only [T.wp,and_true];exact ⟨h1,h2⟩
  ·exact hg.elim
 ·exact hg.elim
def Sf:aQ cod:=(65,.p Wk)::CD
def aaA:aT cod:=c9 Sf
theorem Ff:cv Tryz.prog cod Sf:=.cons Pk wO
def tW:aH cod:=fun args H=>match H with
 | []=>match rd args with
   | some [[n],[lo],[hi]]=>(.aa (lo≤hi) (.ret (.c (.int .i64 (F.kL n lo hi)),[])))
   | _=>.fail
 | _=>.fail
theorem C2 (n lo hi:Int):aI aaA [] Tryz.f57.results.toList ([]:Heap cod).length 400 [.code (aj Tryz.f57)] ⟨ay Tryz.f57 [.c (.int .i64 n),.c (.int .i64 lo),.c (.int .i64 hi)],[]⟩=
 cond (decide (n < lo)) (
 .ret (.fin (.c (.int .i64 lo)) [])) (
 cond (decide (hi < lo)) (
  .ret (.fin (.c (.int .i64 lo)) [])) (
  cond (decide (hi < n)) (
   .ret (.fin (.c (.int .i64 hi)) [])) (
   .ret (.fin (.c (.int .i64 n)) [])))):=by kernel_rfl
theorem Af:Sound Tryz.prog cod 57 tW:=aW (cfg:=aaA) Ff mixed Tryz.func57 rfl rfl _ 400 fun args H r news hg=>by
 unfold tW at hg;split at hg
 ·split at hg
  ·rename_i n lo hi dn;have aJ:=b8 dn;simp only [List.map,oS] at aJ;subst aJ;clear dn;rw [C2];simp only [T.ah,T.wp,Prod.mk.injEq] at hg;obtain ⟨h1,rfl,rfl⟩:=hg;simp only [T.wp,T.wp_cond,Fin.fin.injEq,SV.c.injEq,Cell.int.injEq,and_true,true_and,decide_eq_true_eq];unfold F.kL
   (repeat' split)<;>omega
  ·exact hg.elim
 ·exact hg.elim
def sQ:aQ cod:=(57,.p tW)::Sf
def AG:aT cod:=c9 sQ
theorem qu:cv Tryz.prog cod sQ:=.cons Af Ff
def V8:aH cod:=fun args H=>match H with
 | []=>match rd args with
   | some [[_,x,y],[_,u,v]]=>(.aa (ae (x+u)∧ae (y+v)) (.ret (.agg [.int .i64 (x+u),.int .i64 (y+v)],[])))
   | _=>.fail
 | _=>.fail
theorem SR (x y u v:Int):aI AG [] Tryz.f55.results.toList ([]:Heap cod).length 400 [.code (aj Tryz.f55)] ⟨ay Tryz.f55 [.agg [.int .i64 x,.int .i64 y],.agg [.int .i64 u,.int .i64 v]],[]⟩=
.aa (ae (x+u)) (
.aa (ae (y+v)) (
.ret (.fin (.agg [.int .i64 (x+u),.int .i64 (y+v)]) []))):=by kernel_rfl
theorem Ow:Sound Tryz.prog cod 55 V8:=aW (cfg:=AG) qu mixed Tryz.func55 rfl rfl _ 400 fun args H r news hg=>by
 unfold V8 at hg;split at hg
 ·split at hg
  ·rename_i _ x y _ u v dn;have aJ:=b8 dn;simp only [List.map,oS,ints,List.tail] at aJ;subst aJ;clear dn;rw [SR];simp only [T.ah,T.wp,Prod.mk.injEq] at hg;obtain ⟨⟨h1,h2⟩,rfl,rfl⟩:=hg;simp only [T.wp,and_true];simp_all
  ·exact hg.elim
 ·exact hg.elim
def RY:aQ cod:=(55,.p V8)::sQ
def aay:aT cod:=c9 RY
theorem Fc:cv Tryz.prog cod RY:=.cons Ow qu
def Ey:aH cod:=fun args H=>match H with
 | []=>match rd args with
   | some [[sl],[a],[s]]=>(.ret (.aP [.c (.int .i64 (F.z (F.qb sl a s) (F.grown sl a s))),.c (.int .i64 (F.qb sl a s))],[]))
   | _=>.fail
 | _=>.fail
theorem KI (sl a s:Int):aI aay [] Tryz.f58.results.toList ([]:Heap cod).length 400 [.code (aj Tryz.f58)] ⟨ay Tryz.f58 [.c (.int .i64 sl),.c (.int .i64 a),.c (.int .i64 s)],[]⟩=
 cond (decide (sl < 0)) (
 .ret (.fin (.aP [.c (.int .i64 0),.c (.int .i64 4)]) [])) (
 cond (decide (409600 < sl)) (
  .ret (.fin (.aP [.c (.int .i64 0),.c (.int .i64 4)]) [])) (
  cond (decide (a < 0)) (
   .ret (.fin (.aP [.c (.int .i64 0),.c (.int .i64 4)]) [])) (
   cond (decide (20 < a)) (
    .ret (.fin (.aP [.c (.int .i64 0),.c (.int .i64 4)]) [])) (
    cond (decide (s < 0)) (
     .ret (.fin (.aP [.c (.int .i64 0),.c (.int .i64 12)]) [])) (
     cond (decide (600 < s)) (
      .ret (.fin (.aP [.c (.int .i64 0),.c (.int .i64 12)]) [])) (
      cond (decide (s=0)) (
       .ret (.fin (.aP [.c (.int .i64 0),.c (.int .i64 0)]) [])) (
       .aa (ae (sl*s)) (
       .aa (((0:Int) < 16∧(ae (sl*s)∧ae (-(sl*s))))) (
       .aa (ae (a*s)) (
       .aa (ae (a*s*s)) (
       .aa (((0:Int) < 2∧(ae (a*s*s)∧ae (-(a*s*s))))) (
       .aa (ae (-(-(sl*s) / 16)+ -(-(a*s*s) / 2))) (
       .aa (ae (-(-(sl*s) / 16)+ -(-(a*s*s) / 2)+2)) (
       .ret (.fin (.aP [.c (.int .i64 (-(-(sl*s) / 16)+ -(-(a*s*s) / 2)+2)),.c (.int .i64 0)]) []))))))))))))))):=by kernel_rfl
theorem Hf:Sound Tryz.prog cod 58 Ey:=aW (cfg:=aay) Fc mixed Tryz.func58 rfl rfl _ 400 fun args H r news hg=>by
 unfold Ey at hg;split at hg
 ·split at hg
  ·rename_i sl a s dn;have aJ:=b8 dn;simp only [List.map,oS] at aJ;subst aJ;clear dn;rw [KI];simp only [T.ah,T.wp,Prod.mk.injEq] at hg;obtain ⟨rfl,rfl⟩:=hg;simp only [T.wp,T.wp_cond,Fin.fin.injEq,SV.c.injEq,SV.aP.injEq,List.cons.injEq,Cell.int.injEq,and_true,true_and,decide_eq_true_eq];unfold F.qb F.z;by_cases h1:sl < 0
   ·simp [h1,jk (.inl h1)]
   by_cases h2:409600 < sl
   ·simp [h1,h2,jk (.inr h2)]
   have g1:=bN.2 (show 0≤sl∧sl≤409600 by omega);by_cases h3:a < 0
   ·simp [h1,h2,h3,g1,jk (.inl h3)]
   by_cases h4:20 < a
   ·simp [h1,h2,h3,h4,g1,jk (.inr h4)]
   have g2:=bN.2 (show 0≤a∧a≤20 by omega);by_cases h5:s < 0
   ·simp [h1,h2,h3,h4,h5,g1,g2,jk (.inl h5)]
   by_cases h6:600 < s
   ·simp [h1,h2,h3,h4,h5,h6,g1,g2,jk (.inr h6)]
   have g3:=bN.2 (show 0≤s∧s≤600 by omega);have hn:=J3 (sl:=sl) (a:=a) (s:=s) (by omega) (by omega) (by omega);by_cases h7:s=0
   ·have h8:F.grown sl a s=0:=by unfold F.grown;rw [if_pos h7]
    have h9:F.de 0 0 600=true:=by decide
    simp [h1,h2,h3,h4,g1,g2,h7,h9,F.grown]
   ·have h8:F.grown sl a s= -(-(sl*s) / 16)+ -(-(a*s*s) / 2)+2:=by unfold F.grown;rw [if_neg h7]
    simp [h1,h2,h3,h4,h5,h6,h7,g1,g2,g3,h8,hn]
  ·exact hg.elim
 ·exact hg.elim
def vO:aQ cod:=(58,.p Ey)::RY
theorem xb:cv Tryz.prog cod vO:=.cons Hf Fc
def ud:aH cod:=fun args H=>match H with
 | []=>match rd args with
   | some [[_,i,st,t,x,y,sx,sy,h,r,ra,c,hi,mi,sl,lt,lx,ly,lh,lc,le],[n],[a]]=>(.ret (.aP [.agg [.int .i64 (F.z (F.cn i st t x y sx sy h r ra c hi mi sl lt lx ly lh lc le n a) i),.int .i64 (F.z (F.cn i st t x y sx sy h r ra c hi mi sl lt lx ly lh lc le n a) st),.int .i64 (F.z (F.cn i st t x y sx sy h r ra c hi mi sl lt lx ly lh lc le n a) n),.int .i64 (F.z (F.cn i st t x y sx sy h r ra c hi mi sl lt lx ly lh lc le n a) (F.px x sx (n - t))),.int .i64 (F.z (F.cn i st t x y sx sy h r ra c hi mi sl lt lx ly lh lc le n a) (F.px y sy (n - t))),.int .i64 (F.z (F.cn i st t x y sx sy h r ra c hi mi sl lt lx ly lh lc le n a) sx),.int .i64 (F.z (F.cn i st t x y sx sy h r ra c hi mi sl lt lx ly lh lc le n a) sy),.int .i64 (F.z (F.cn i st t x y sx sy h r ra c hi mi sl lt lx ly lh lc le n a) (F.ph h r (n - t))),.int .i64 (F.z (F.cn i st t x y sx sy h r ra c hi mi sl lt lx ly lh lc le n a) r),.int .i64 (F.z (F.cn i st t x y sx sy h r ra c hi mi sl lt lx ly lh lc le n a) (F.pr ra sl a (n - t))),.int .i64 (F.z (F.cn i st t x y sx sy h r ra c hi mi sl lt lx ly lh lc le n a) c),.int .i64 (F.z (F.cn i st t x y sx sy h r ra c hi mi sl lt lx ly lh lc le n a) hi),.int .i64 (F.z (F.cn i st t x y sx sy h r ra c hi mi sl lt lx ly lh lc le n a) mi),.int .i64 (F.z (F.cn i st t x y sx sy h r ra c hi mi sl lt lx ly lh lc le n a) (F.ps sl a (n - t))),.int .i64 (F.z (F.cn i st t x y sx sy h r ra c hi mi sl lt lx ly lh lc le n a) lt),.int .i64 (F.z (F.cn i st t x y sx sy h r ra c hi mi sl lt lx ly lh lc le n a) lx),.int .i64 (F.z (F.cn i st t x y sx sy h r ra c hi mi sl lt lx ly lh lc le n a) ly),.int .i64 (F.z (F.cn i st t x y sx sy h r ra c hi mi sl lt lx ly lh lc le n a) lh),.int .i64 (F.z (F.cn i st t x y sx sy h r ra c hi mi sl lt lx ly lh lc le n a) lc),.int .i64 (F.z (F.cn i st t x y sx sy h r ra c hi mi sl lt lx ly lh lc le n a) le)],.c (.int .i64 (F.cn i st t x y sx sy h r ra c hi mi sl lt lx ly lh lc le n a))],[]))
   | _=>.fail
 | _=>.fail
theorem D5 (i st t x y sx sy h r ra c hi mi sl lt lx ly lh lc le n a:Int):aI (As vO) [] Tryz.f24.results.toList ([]:Heap cod).length 400 [.code (aj Tryz.f24)] ⟨ay Tryz.f24 [.agg [.int .i64 i,.int .i64 st,.int .i64 t,.int .i64 x,.int .i64 y,.int .i64 sx,.int .i64 sy,.int .i64 h,.int .i64 r,.int .i64 ra,.int .i64 c,.int .i64 hi,.int .i64 mi,.int .i64 sl,.int .i64 lt,.int .i64 lx,.int .i64 ly,.int .i64 lh,.int .i64 lc,.int .i64 le],.c (.int .i64 n),.c (.int .i64 a)],[]⟩=
 (let q0:=IntKind.wrap .i64 (n - t);
 let q1:=IntKind.wrap .i64 (h+IntKind.wrap .i64 (r*IntKind.wrap .i64 (n - t)) / 16);
 let q2:=IntKind.wrap .i64 (16*a)*IntKind.wrap .i64 (n - t);
 cond (!decide (F.aM i st t x y sx sy h r ra c hi mi sl lt lx ly lh lc le=0)) (.ret (.fin (.aP [.agg [.int .i64 0,.int .i64 0,.int .i64 0,.int .i64 0,.int .i64 0,.int .i64 0,.int .i64 0,.int .i64 0,.int .i64 0,.int .i64 0,.int .i64 0,.int .i64 0,.int .i64 0,.int .i64 0,.int .i64 0,.int .i64 0,.int .i64 0,.int .i64 0,.int .i64 0,.int .i64 0],.c (.int .i64 (F.aM i st t x y sx sy h r ra c hi mi sl lt lx ly lh lc le))]) [])) (cond (F.out n 0 200000) (.ret (.fin (.aP [.agg [.int .i64 0,.int .i64 0,.int .i64 0,.int .i64 0,.int .i64 0,.int .i64 0,.int .i64 0,.int .i64 0,.int .i64 0,.int .i64 0,.int .i64 0,.int .i64 0,.int .i64 0,.int .i64 0,.int .i64 0,.int .i64 0,.int .i64 0,.int .i64 0,.int .i64 0,.int .i64 0],.c (.int .i64 4)]) [])) (cond (F.out a 0 20) (.ret (.fin (.aP [.agg [.int .i64 0,.int .i64 0,.int .i64 0,.int .i64 0,.int .i64 0,.int .i64 0,.int .i64 0,.int .i64 0,.int .i64 0,.int .i64 0,.int .i64 0,.int .i64 0,.int .i64 0,.int .i64 0,.int .i64 0,.int .i64 0,.int .i64 0,.int .i64 0,.int .i64 0,.int .i64 0],.c (.int .i64 4)]) [])) (cond (F.out q0 0 600) (.ret (.fin (.aP [.agg [.int .i64 0,.int .i64 0,.int .i64 0,.int .i64 0,.int .i64 0,.int .i64 0,.int .i64 0,.int .i64 0,.int .i64 0,.int .i64 0,.int .i64 0,.int .i64 0,.int .i64 0,.int .i64 0,.int .i64 0,.int .i64 0,.int .i64 0,.int .i64 0,.int .i64 0,.int .i64 0],.c (.int .i64 12)]) [])) (cond (decide (IntKind.wrap .i64 (n - t)=0)) (.ret (.fin (.aP [.agg [.int .i64 i,.int .i64 st,.int .i64 t,.int .i64 x,.int .i64 y,.int .i64 sx,.int .i64 sy,.int .i64 h,.int .i64 r,.int .i64 ra,.int .i64 c,.int .i64 hi,.int .i64 mi,.int .i64 sl,.int .i64 lt,.int .i64 lx,.int .i64 ly,.int .i64 lh,.int .i64 lc,.int .i64 le],.c (.int .i64 0)]) [])) (.aa (((0:Int) < 16∧ae (IntKind.wrap .i64 (sx*IntKind.wrap .i64 (n - t))))) (.aa (((0:Int) < 16∧ae (IntKind.wrap .i64 (sy*IntKind.wrap .i64 (n - t))))) (.aa ((ae (x+IntKind.wrap .i64 (sx*IntKind.wrap .i64 (n - t)) / 16)∧ae (y+IntKind.wrap .i64 (sy*IntKind.wrap .i64 (n - t)) / 16))) (.aa (((0:Int) < 16∧ae (IntKind.wrap .i64 (r*IntKind.wrap .i64 (n - t))))) (.aa ((0:Int)≤60000) (cond (!decide (F.aM i st n (x+IntKind.wrap .i64 (sx*IntKind.wrap .i64 (n - t)) / 16) (y+IntKind.wrap .i64 (sy*IntKind.wrap .i64 (n - t)) / 16) sx sy (F.kL q1 0 60000) r (IntKind.wrap .i64 (ra+F.z (F.qb sl a q0) (F.grown sl a q0))) c hi mi (IntKind.wrap .i64 (sl+IntKind.wrap .i64 q2)) lt lx ly lh lc le=0)) (.ret (.fin (.aP [.agg [.int .i64 0,.int .i64 0,.int .i64 0,.int .i64 0,.int .i64 0,.int .i64 0,.int .i64 0,.int .i64 0,.int .i64 0,.int .i64 0,.int .i64 0,.int .i64 0,.int .i64 0,.int .i64 0,.int .i64 0,.int .i64 0,.int .i64 0,.int .i64 0,.int .i64 0,.int .i64 0],.c (.int .i64 8)]) [])) (.ret (.fin (.aP [.agg [.int .i64 i,.int .i64 st,.int .i64 n,.int .i64 (x+IntKind.wrap .i64 (sx*IntKind.wrap .i64 (n - t)) / 16),.int .i64 (y+IntKind.wrap .i64 (sy*IntKind.wrap .i64 (n - t)) / 16),.int .i64 sx,.int .i64 sy,.int .i64 (F.kL q1 0 60000),.int .i64 r,.int .i64 (IntKind.wrap .i64 (ra+F.z (F.qb sl a q0) (F.grown sl a q0))),.int .i64 c,.int .i64 hi,.int .i64 mi,.int .i64 (IntKind.wrap .i64 (sl+IntKind.wrap .i64 q2)),.int .i64 lt,.int .i64 lx,.int .i64 ly,.int .i64 lh,.int .i64 lc,.int .i64 le],.c (.int .i64 0)]) []))))))))))))):=by kernel_rfl
theorem pn:Sound Tryz.prog cod 24 ud:=aW (cfg:=(As vO)) xb mixed Tryz.func24 rfl rfl _ 400 fun args H r news hg=>by
 unfold ud at hg;split at hg
 ·split at hg
  ·rename_i _ i st t x y sx sy h r ra c hi mi sl lt lx ly lh lc le n a dn;have aJ:=b8 dn;simp only [List.map,oS,ints,List.tail] at aJ;subst aJ;clear dn;rw [D5];simp only [T.ah,T.wp,Prod.mk.injEq] at hg;obtain ⟨rfl,rfl⟩:=hg;simp only [T.wp,T.wp_cond,Fin.fin.injEq,SV.c.injEq,SV.aP.injEq,SV.agg.injEq,List.cons.injEq,Cell.int.injEq,and_true,true_and,decide_eq_true_eq];have hb:=gf (i:=i) (st:=st) (t:=t) (x:=x) (y:=y) (sx:=sx) (sy:=sy) (h:=h) (r:=r) (ra:=ra) (c:=c) (hi:=hi) (mi:=mi) (sl:=sl) (lt:=lt) (lx:=lx) (ly:=ly) (lh:=lh) (lc:=lc) (le:=le);unfold F.cn F.z;by_cases he:F.aM i st t x y sx sy h r ra c hi mi sl lt lx ly lh lc le=0
   ·obtain ⟨k1,k2,k3,k4,k5,k6,k7,k8,k9,k10,k11,k12,k13,k14,k15,k16⟩:=hb he;simp only [he,DZ];by_cases h1:F.de n 0 200000=true
    ·have jj:=bN.1 h1;have hw:IntKind.wrap .i64 (n - t)=n - t:=bM (by unfold ae;omega);simp only [h1,hw];by_cases h2:F.de a 0 20=true
     ·simp only [h2];by_cases h3:F.de (n - t) 0 600=true
      ·simp only [h3];obtain ⟨w1,w2,w3,w4,w5,w6,w7,w8,w9,w10⟩:=Qv (d:=(n - t)) k2 k3 k7 k8 k4 k9 k5 k10 (bN.1 h2) (bN.1 h3);by_cases h4:n - t=0
       ·obtain rfl:n=t:=by omega
        have h5:=pred_zero (x:=x) (sx:=sx) (h:=h) (r:=r) (ra:=ra) (sl:=sl) (a:=a) k4;have h6:=pred_zero (x:=y) (sx:=sy) (h:=h) (r:=r) (ra:=ra) (sl:=sl) (a:=a) k4;simp [h5,h6,he,h4]
       ·have hr:F.qb sl a (n - t)=0:=by
         unfold F.qb;simp [bN.2 k10,h2,h3]
        unfold F.px F.ph F.pr F.ps;simp only [h4,hr,bM w1,bM w2,bM w5,bM w6,bM w7,bM w8,bM w9,bM w10,w1,w2,w3,w4,w5,if_true];generalize F.aM i st n (x+sx*(n - t) / 16) (y+sy*(n - t) / 16) sx sy (F.kL (h+r*(n - t) / 16) 0 60000) r (ra+F.grown sl a (n - t)) c hi mi (sl+16*a*(n - t)) lt lx ly lh lc le=E3;by_cases h7:E3=0<;>simp [h7]
      ·simp [h3]
     ·simp [h2]
    ·simp [h1]
   ·simp [he]
  ·exact hg.elim
 ·exact hg.elim
def s9:aQ cod:=(24,.p ud)::vO
def AN:aT cod:=c9 s9
theorem qA:cv Tryz.prog cod s9:=.cons pn xb
end
end
end Go.Proofs.YtcjagpfbhnmggaaGreatDoor
