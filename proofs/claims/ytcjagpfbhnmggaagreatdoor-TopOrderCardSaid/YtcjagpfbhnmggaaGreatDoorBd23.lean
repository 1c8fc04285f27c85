/- Parts of the proof. -/
import Derived.Test.YtcjagpfbhnmggaaGreatDoorBd22
namespace Go.Proofs.YtcjagpfbhnmggaaGreatDoor
section
open Sym Go.RowKit
noncomputable section
set_option maxRecDepth 100000
set_option maxHeartbeats 8000000
namespace F
def vG (a b g:Int):Int:=a+(b - a)*g / 256
def usp (s v lv d sp:Int):Int:=vG s (16*(v - lv) / d) sp
def H7 (sh lh d:Int):Int:=kL (16*(sh - lh) / d) (-3200) 3200
def Xi (pl p se:Int):Int:=-(-((256 - pl)*p+pl*se) / 256)+2
def um (se le d a:Int):Int:=-(-(16*(se+le)) / d)+16*a*d+2
def usl (sp p m:Int):Int:=-(-((256 - sp)*p+sp*m) / 256)+2
def H5 (sc c:Int):Int:=if sc= -1 then c else sc
def dE (i st t x y sx sy h r ra c hi mi sl lt lx ly lh lc le c7 fy fA sh sc se a pl sp:Int):Int:=if F.aM i st t x y sx sy h r ra c hi mi sl lt lx ly lh lc le=0 then (if spot c7 fy fA sh sc se=0 then (if de pl 0 256&&de sp 0 256 then (if (c7 - lt)≤0 then 12 else if F.cn i st t x y sx sy h r ra c hi mi sl lt lx ly lh lc le c7 a=0 then
 (if ((F.pr ra sl a (c7 - t))+se)*((F.pr ra sl a (c7 - t))+se) < iw (F.px x sx (c7 - t)) (F.px y sy (c7 - t)) fy fA then 8 else if F.aM i st c7 (F.vG (F.px x sx (c7 - t)) fy pl) (F.vG (F.px y sy (c7 - t)) fA pl) (F.usp sx fy lx (c7 - lt) sp) (F.usp sy fA ly (c7 - lt) sp) sh (F.H7 sh lh (c7 - lt)) (F.Xi pl (F.pr ra sl a (c7 - t)) se) (F.H5 sc c) (IntKind.wrap .i64 (hi+1)) 0 (F.usl sp (F.ps sl a (c7 - t)) (F.um se le (c7 - lt) a)) c7 fy fA sh sc se=0 then 0 else 8) else F.cn i st t x y sx sy h r ra c hi mi sl lt lx ly lh lc le c7 a) else 4) else spot c7 fy fA sh sc se) else F.aM i st t x y sx sy h r ra c hi mi sl lt lx ly lh lc le
end F
theorem z0 (v:Int):F.z 0 v=v:=rfl
theorem yK {i st t x y sx sy h r ra c hi mi sl lt lx ly lh lc le n a:Int} (e:F.cn i st t x y sx sy h r ra c hi mi sl lt lx ly lh lc le n a=0) (he:F.aM i st t x y sx sy h r ra c hi mi sl lt lx ly lh lc le=0):F.de n 0 200000=true∧F.de a 0 20=true∧F.de (n - t) 0 600=true∧F.aM i st n (F.px x sx (n - t)) (F.px y sy (n - t)) sx sy (F.ph h r (n - t)) r (F.pr ra sl a (n - t)) c hi mi (F.ps sl a (n - t)) lt lx ly lh lc le=0:=by
 unfold F.cn at e;rw [if_pos he] at e;split at e
 ·rename_i h1;split at e
  ·rename_i h2;split at e
   ·rename_i h3;simp only [Bool.and_eq_true] at h1;exact ⟨h1.1,h1.2,h2,h3⟩
   ·cases e
  ·cases e
 ·cases e
theorem JJ {n d b:Int} (hd:0 < d) (h: -b≤n∧n≤b): -b≤n / d∧n / d≤b:=by
 obtain ⟨h1,h2⟩:=Dg n d hd;rcases Int.lt_or_le n 0 with h3 | h3
 ·have:=h2 h3;omega
 ·have:=h1 h3;omega
theorem Xg {P3 P4 fy fA sh se lx ly lh le a pl sp d:Int} (h3:0≤P3∧P3≤4000000) (h4:0≤P4∧P4≤409600)
 (g1: -1000000≤fy∧fy≤1000000) (g2: -1000000≤fA∧fA≤1000000) (g3:0≤sh∧sh≤60000) (g4:0≤se∧se≤1000000)
 (f1: -1000000≤lx∧lx≤1000000) (f2: -1000000≤ly∧ly≤1000000) (f3:0≤lh∧lh≤60000) (f4:0≤le∧le≤1000000)
 (ha:0≤a∧a≤20) (z7:0≤pl∧pl≤256) (Uw:0≤sp∧sp≤256) (hd:0 < d∧d≤200000):
 (ae (P3+se)∧ae ((P3+se)*(P3+se))∧F.de (P3+se) 0 8000000=true)∧
 (ae (256 - pl)∧ae ((256 - pl)*P3)∧ae (pl*se)∧ae ((256 - pl)*P3+pl*se)∧ae (-((256 - pl)*P3+pl*se))∧ae (-(-((256 - pl)*P3+pl*se) / 256)+2))∧
 (ae (fy - lx)∧ae (16*(fy - lx))∧F.b9 (16*(fy - lx) / d))∧(ae (fA - ly)∧ae (16*(fA - ly))∧F.b9 (16*(fA - ly) / d))∧
 (ae (se+le)∧ae (16*(se+le))∧ae (-(16*(se+le)))∧ae (16*a)∧ae (16*a*d)∧ae (-(-(16*(se+le)) / d)+16*a*d)∧ae (-(-(16*(se+le)) / d)+16*a*d+2))∧
 (ae (256 - sp)∧ae ((256 - sp)*P4)∧ae (sp*(-(-(16*(se+le)) / d)+16*a*d+2))∧ae ((256 - sp)*P4+sp*(-(-(16*(se+le)) / d)+16*a*d+2))∧
   ae (-((256 - sp)*P4+sp*(-(-(16*(se+le)) / d)+16*a*d+2)))∧ae (-(-((256 - sp)*P4+sp*(-(-(16*(se+le)) / d)+16*a*d+2)) / 256)+2))∧
 (ae (sh - lh)∧ae (16*(sh - lh))):=by
 have k1:=rO (x:=P3+se) (a:=5000000) (by omega);have k2:=dP (x:=256 - pl) (y:=P3) (a:=256) (b:=4000000) (by omega) (by omega);have k3:=dP (x:=pl) (y:=se) (a:=256) (b:=1000000) (by omega) (by omega);have k4:=JJ (n:=16*(fy - lx)) (d:=d) (b:=32000000) hd.1 (by omega);have k5:=JJ (n:=16*(fA - ly)) (d:=d) (b:=32000000) hd.1 (by omega);have k6:=JJ (n:=-(16*(se+le))) (d:=d) (b:=32000000) hd.1 (by omega);have k7:=dP (x:=16*a) (y:=d) (a:=320) (b:=200000) (by omega) (by omega);have k8:=dP (x:=256 - sp) (y:=P4) (a:=256) (b:=409600) (by omega) (by omega);have k9:=dP (x:=sp) (y:=-(-(16*(se+le)) / d)+16*a*d+2) (a:=256) (b:=100000000) (by omega) (by omega);have k10:F.de (P3+se) 0 8000000=true:=bN.2 (by omega);generalize (P3+se)*(P3+se)=q1 at*;generalize (256 - pl)*P3=q2 at*;generalize pl*se=q3 at*;generalize sp*(-(-(16*(se+le)) / d)+16*a*d+2)=q9 at*;generalize 16*(fy - lx) / d=q4 at*;generalize 16*(fA - ly) / d=q5 at*;generalize -(16*(se+le)) / d=q6 at*;generalize 16*a*d=q7 at*;generalize (256 - sp)*P4=q8 at*;unfold ae F.b9;refine ⟨⟨?_,?_,k10⟩,⟨?_,?_,?_,?_,?_,?_⟩,⟨?_,?_,?_⟩,⟨?_,?_,?_⟩,⟨?_,?_,?_,?_,?_,?_,?_⟩,⟨?_,?_,?_,?_,?_,?_⟩,⟨?_,?_⟩⟩<;>omega
def Ws:aH cod:=fun args H=>match H with
 | []=>match rd args with
   | some [[a],[b],[g]]=>(.aa (F.b9 a∧F.b9 b∧(0≤g∧g≤256)) (.ret (.c (.int .i64 (F.vG a b g)),[])))
   | _=>.fail
 | _=>.fail
theorem Vn (a b g:Int):aI AN [] Tryz.f64.results.toList ([]:Heap cod).length 400 [.code (aj Tryz.f64)] ⟨ay Tryz.f64 [.c (.int .i64 a),.c (.int .i64 b),.c (.int .i64 g)],[]⟩=
.aa (ae (b - a)) (
.aa (ae ((b - a)*g)) (
.aa (((0:Int) < 256∧ae ((b - a)*g))) (
.aa (ae (a+(b - a)*g / 256)) (
.ret (.fin (.c (.int .i64 (a+(b - a)*g / 256))) []))))):=by kernel_rfl
theorem P0:Sound Tryz.prog cod 64 Ws:=aW (cfg:=AN) qA mixed Tryz.func64 rfl rfl _ 400 fun args H r news hg=>by
 unfold Ws at hg;split at hg
 ·split at hg
  ·rename_i a b g dn;have aJ:=b8 dn;simp only [List.map,oS] at aJ;subst aJ;clear dn;rw [Vn];simp only [T.ah,T.wp,Prod.mk.injEq] at hg;obtain ⟨⟨h1,h2,h3⟩,rfl,rfl⟩:=hg;simp only [T.wp,Fin.fin.injEq,SV.c.injEq,Cell.int.injEq,and_true,true_and];unfold F.b9 at h1 h2;unfold F.vG;have k1:=dP (x:=b - a) (y:=g) (a:=2000000000) (b:=256) (by omega) (by omega);generalize (b - a)*g=p at*;unfold ae;omega
  ·exact hg.elim
 ·exact hg.elim
def Sn:aQ cod:=(64,.p Ws)::s9
def aaC:aT cod:=c9 Sn
theorem Fj:cv Tryz.prog cod Sn:=.cons P0 qA
def Ef:aH cod:=fun args H=>match H with
 | []=>match rd args with
   | some [[_,lt,lx,ly,lh,lc,le]]=>(.ret (.aP [.agg [.int .i64 0,.int .i64 0,.int .i64 (F.z (F.spot lt lx ly lh lc le) lt),.int .i64 (F.z (F.spot lt lx ly lh lc le) lx),.int .i64 (F.z (F.spot lt lx ly lh lc le) ly),.int .i64 0,.int .i64 0,.int .i64 (F.z (F.spot lt lx ly lh lc le) lh),.int .i64 0,.int .i64 (F.z (F.spot lt lx ly lh lc le) le),.int .i64 (F.z (F.spot lt lx ly lh lc le) lc),.int .i64 (F.z (F.spot lt lx ly lh lc le) 1),.int .i64 0,.int .i64 (F.z (F.spot lt lx ly lh lc le) 6400),.int .i64 (F.z (F.spot lt lx ly lh lc le) lt),.int .i64 (F.z (F.spot lt lx ly lh lc le) lx),.int .i64 (F.z (F.spot lt lx ly lh lc le) ly),.int .i64 (F.z (F.spot lt lx ly lh lc le) lh),.int .i64 (F.z (F.spot lt lx ly lh lc le) lc),.int .i64 (F.z (F.spot lt lx ly lh lc le) le)],.c (.int .i64 (F.spot lt lx ly lh lc le))],[]))
   | _=>.fail
 | _=>.fail
theorem Jh (lt lx ly lh lc le:Int):aI aaC [] Tryz.f30.results.toList ([]:Heap cod).length 400 [.code (aj Tryz.f30)] ⟨ay Tryz.f30 [.agg [.int .i64 lt,.int .i64 lx,.int .i64 ly,.int .i64 lh,.int .i64 lc,.int .i64 le]],[]⟩=
 cond (!decide (F.spot lt lx ly lh lc le=0)) (
 .ret (.fin (.aP [.agg [.int .i64 0,.int .i64 0,.int .i64 0,.int .i64 0,.int .i64 0,.int .i64 0,.int .i64 0,.int .i64 0,.int .i64 0,.int .i64 0,.int .i64 0,.int .i64 0,.int .i64 0,.int .i64 0,.int .i64 0,.int .i64 0,.int .i64 0,.int .i64 0,.int .i64 0,.int .i64 0],.c (.int .i64 (F.spot lt lx ly lh lc le))]) [])) (
 .ret (.fin (.aP [.agg [.int .i64 0,.int .i64 0,.int .i64 lt,.int .i64 lx,.int .i64 ly,.int .i64 0,.int .i64 0,.int .i64 lh,.int .i64 0,.int .i64 le,.int .i64 lc,.int .i64 1,.int .i64 0,.int .i64 6400,.int .i64 lt,.int .i64 lx,.int .i64 ly,.int .i64 lh,.int .i64 lc,.int .i64 le],.c (.int .i64 0)]) [])):=by kernel_rfl
theorem uF:Sound Tryz.prog cod 30 Ef:=aW (cfg:=aaC) Fj mixed Tryz.func30 rfl rfl _ 400 fun args H r news hg=>by
 unfold Ef at hg;split at hg
 ·split at hg
  ·rename_i _ lt lx ly lh lc le dn;have aJ:=b8 dn;simp only [List.map,oS,ints,List.tail] at aJ;subst aJ;clear dn;rw [Jh];simp only [T.ah,T.wp,Prod.mk.injEq] at hg;obtain ⟨rfl,rfl⟩:=hg;simp only [T.wp,T.wp_cond,Fin.fin.injEq,SV.c.injEq,SV.aP.injEq,SV.agg.injEq,List.cons.injEq,Cell.int.injEq,and_true,true_and];generalize F.spot lt lx ly lh lc le=E;by_cases he:E=0<;>simp [he,F.z]
  ·exact hg.elim
 ·exact hg.elim
def vM:aQ cod:=(30,.p Ef)::Sn
theorem wG:cv Tryz.prog cod vM:=.cons uF Fj
def ze:aH cod:=fun args H=>match H with
 | []=>match rd args with
   | some [[_,i,st,t,x,y,sx,sy,h,r,ra,c,hi,mi,sl,lt,lx,ly,lh,lc,le],[_,c7,fy,fA,sh,sc,se],[a],[pl],[sp]]=>(.ret (.aP [.agg [.int .i64 (F.z (F.dE i st t x y sx sy h r ra c hi mi sl lt lx ly lh lc le c7 fy fA sh sc se a pl sp) i),.int .i64 (F.z (F.dE i st t x y sx sy h r ra c hi mi sl lt lx ly lh lc le c7 fy fA sh sc se a pl sp) st),.int .i64 (F.z (F.dE i st t x y sx sy h r ra c hi mi sl lt lx ly lh lc le c7 fy fA sh sc se a pl sp) c7),.int .i64 (F.z (F.dE i st t x y sx sy h r ra c hi mi sl lt lx ly lh lc le c7 fy fA sh sc se a pl sp) (F.vG (F.px x sx (c7 - t)) fy pl)),.int .i64 (F.z (F.dE i st t x y sx sy h r ra c hi mi sl lt lx ly lh lc le c7 fy fA sh sc se a pl sp) (F.vG (F.px y sy (c7 - t)) fA pl)),.int .i64 (F.z (F.dE i st t x y sx sy h r ra c hi mi sl lt lx ly lh lc le c7 fy fA sh sc se a pl sp) (F.usp sx fy lx (c7 - lt) sp)),.int .i64 (F.z (F.dE i st t x y sx sy h r ra c hi mi sl lt lx ly lh lc le c7 fy fA sh sc se a pl sp) (F.usp sy fA ly (c7 - lt) sp)),.int .i64 (F.z (F.dE i st t x y sx sy h r ra c hi mi sl lt lx ly lh lc le c7 fy fA sh sc se a pl sp) sh),.int .i64 (F.z (F.dE i st t x y sx sy h r ra c hi mi sl lt lx ly lh lc le c7 fy fA sh sc se a pl sp) (F.H7 sh lh (c7 - lt))),.int .i64 (F.z (F.dE i st t x y sx sy h r ra c hi mi sl lt lx ly lh lc le c7 fy fA sh sc se a pl sp) (F.Xi pl (F.pr ra sl a (c7 - t)) se)),.int .i64 (F.z (F.dE i st t x y sx sy h r ra c hi mi sl lt lx ly lh lc le c7 fy fA sh sc se a pl sp) (F.H5 sc c)),.int .i64 (F.z (F.dE i st t x y sx sy h r ra c hi mi sl lt lx ly lh lc le c7 fy fA sh sc se a pl sp) (IntKind.wrap .i64 (hi+1))),.int .i64 (F.z (F.dE i st t x y sx sy h r ra c hi mi sl lt lx ly lh lc le c7 fy fA sh sc se a pl sp) 0),.int .i64 (F.z (F.dE i st t x y sx sy h r ra c hi mi sl lt lx ly lh lc le c7 fy fA sh sc se a pl sp) (F.usl sp (F.ps sl a (c7 - t)) (F.um se le (c7 - lt) a))),.int .i64 (F.z (F.dE i st t x y sx sy h r ra c hi mi sl lt lx ly lh lc le c7 fy fA sh sc se a pl sp) c7),.int .i64 (F.z (F.dE i st t x y sx sy h r ra c hi mi sl lt lx ly lh lc le c7 fy fA sh sc se a pl sp) fy),.int .i64 (F.z (F.dE i st t x y sx sy h r ra c hi mi sl lt lx ly lh lc le c7 fy fA sh sc se a pl sp) fA),.int .i64 (F.z (F.dE i st t x y sx sy h r ra c hi mi sl lt lx ly lh lc le c7 fy fA sh sc se a pl sp) sh),.int .i64 (F.z (F.dE i st t x y sx sy h r ra c hi mi sl lt lx ly lh lc le c7 fy fA sh sc se a pl sp) sc),.int .i64 (F.z (F.dE i st t x y sx sy h r ra c hi mi sl lt lx ly lh lc le c7 fy fA sh sc se a pl sp) se)],.c (.int .i64 (F.dE i st t x y sx sy h r ra c hi mi sl lt lx ly lh lc le c7 fy fA sh sc se a pl sp))],[]))
   | _=>.fail
 | _=>.fail
theorem H6 (i st t x y sx sy h r ra c hi mi sl lt lx ly lh lc le c7 fy fA sh sc se a pl sp:Int):aI (As vM) [] Tryz.f27.results.toList ([]:Heap cod).length 400 [.code (aj Tryz.f27)] ⟨ay Tryz.f27 [.agg [.int .i64 i,.int .i64 st,.int .i64 t,.int .i64 x,.int .i64 y,.int .i64 sx,.int .i64 sy,.int .i64 h,.int .i64 r,.int .i64 ra,.int .i64 c,.int .i64 hi,.int .i64 mi,.int .i64 sl,.int .i64 lt,.int .i64 lx,.int .i64 ly,.int .i64 lh,.int .i64 lc,.int .i64 le],.agg [.int .i64 c7,.int .i64 fy,.int .i64 fA,.int .i64 sh,.int .i64 sc,.int .i64 se],.c (.int .i64 a),.c (.int .i64 pl),.c (.int .i64 sp)],[]⟩=
 (let q0:=F.cn i st t x y sx sy h r ra c hi mi sl lt lx ly lh lc le c7 a;
 let q3:=IntKind.wrap .i64 (16*IntKind.wrap .i64 (fy - lx)) / IntKind.wrap .i64 (c7 - lt);
 let q4:=IntKind.wrap .i64 (16*IntKind.wrap .i64 (fA - ly)) / IntKind.wrap .i64 (c7 - lt);
 let q6:=IntKind.wrap .i64 (16*IntKind.wrap .i64 (sh - lh)) / IntKind.wrap .i64 (c7 - lt);
 let q8:=IntKind.wrap .i64 (16*a)*IntKind.wrap .i64 (c7 - lt);
 let q9:=F.z q0 (F.px x sx (c7 - t));
 let wg:=F.z q0 (F.px y sy (c7 - t));
 let po:=F.pr ra sl a (c7 - t);
 let q5:=IntKind.wrap .i64 (-(-IntKind.wrap .i64 (IntKind.wrap .i64 (IntKind.wrap .i64 (256 - pl)*F.z q0 po)+IntKind.wrap .i64 (pl*se)) / 256)+2);
 let q7:=IntKind.wrap .i64 (-(-IntKind.wrap .i64 (IntKind.wrap .i64 (IntKind.wrap .i64 (256 - pl)*F.z q0 po)+IntKind.wrap .i64 (pl*se)) / 256)+2);
 let vH:=IntKind.wrap .i64 (F.z q0 hi+1);
 let KF:=F.ps sl a (c7 - t);
 let q1:=IntKind.wrap .i64 (-(-IntKind.wrap .i64 (IntKind.wrap .i64 (IntKind.wrap .i64 (256 - sp)*F.z q0 KF)+IntKind.wrap .i64 (sp*IntKind.wrap .i64 (IntKind.wrap .i64 (-(-IntKind.wrap .i64 (16*IntKind.wrap .i64 (se+le)) / IntKind.wrap .i64 (c7 - lt))+IntKind.wrap .i64 q8)+2))) / 256)+2);
 let q2:=IntKind.wrap .i64 (-(-IntKind.wrap .i64 (IntKind.wrap .i64 (IntKind.wrap .i64 (256 - sp)*F.z q0 KF)+IntKind.wrap .i64 (sp*IntKind.wrap .i64 (IntKind.wrap .i64 (-(-IntKind.wrap .i64 (16*IntKind.wrap .i64 (se+le)) / IntKind.wrap .i64 (c7 - lt))+IntKind.wrap .i64 q8)+2))) / 256)+2);
 let yL:=F.vG wg fA pl;
 let KG:=F.vG q9 fy pl;
 let D7:=F.vG (F.z q0 sx) q3 sp;
 let D8:=F.vG (F.z q0 sy) q4 sp;
 let Qw:=F.kL q6 (-3200) 3200;
 let ZK:=F.z q0 po+se;
 cond (!decide (F.aM i st t x y sx sy h r ra c hi mi sl lt lx ly lh lc le=0)) (.ret (.fin (.aP [.agg [.int .i64 0,.int .i64 0,.int .i64 0,.int .i64 0,.int .i64 0,.int .i64 0,.int .i64 0,.int .i64 0,.int .i64 0,.int .i64 0,.int .i64 0,.int .i64 0,.int .i64 0,.int .i64 0,.int .i64 0,.int .i64 0,.int .i64 0,.int .i64 0,.int .i64 0,.int .i64 0],.c (.int .i64 (F.aM i st t x y sx sy h r ra c hi mi sl lt lx ly lh lc le))]) [])) (cond (!decide (F.spot c7 fy fA sh sc se=0)) (.ret (.fin (.aP [.agg [.int .i64 0,.int .i64 0,.int .i64 0,.int .i64 0,.int .i64 0,.int .i64 0,.int .i64 0,.int .i64 0,.int .i64 0,.int .i64 0,.int .i64 0,.int .i64 0,.int .i64 0,.int .i64 0,.int .i64 0,.int .i64 0,.int .i64 0,.int .i64 0,.int .i64 0,.int .i64 0],.c (.int .i64 (F.spot c7 fy fA sh sc se))]) [])) (cond (F.out pl 0 256) (.ret (.fin (.aP [.agg [.int .i64 0,.int .i64 0,.int .i64 0,.int .i64 0,.int .i64 0,.int .i64 0,.int .i64 0,.int .i64 0,.int .i64 0,.int .i64 0,.int .i64 0,.int .i64 0,.int .i64 0,.int .i64 0,.int .i64 0,.int .i64 0,.int .i64 0,.int .i64 0,.int .i64 0,.int .i64 0],.c (.int .i64 4)]) [])) (cond (F.out sp 0 256) (.ret (.fin (.aP [.agg [.int .i64 0,.int .i64 0,.int .i64 0,.int .i64 0,.int .i64 0,.int .i64 0,.int .i64 0,.int .i64 0,.int .i64 0,.int .i64 0,.int .i64 0,.int .i64 0,.int .i64 0,.int .i64 0,.int .i64 0,.int .i64 0,.int .i64 0,.int .i64 0,.int .i64 0,.int .i64 0],.c (.int .i64 4)]) [])) (cond (decide (IntKind.wrap .i64 (c7 - lt)≤0)) (.ret (.fin (.aP [.agg [.int .i64 0,.int .i64 0,.int .i64 0,.int .i64 0,.int .i64 0,.int .i64 0,.int .i64 0,.int .i64 0,.int .i64 0,.int .i64 0,.int .i64 0,.int .i64 0,.int .i64 0,.int .i64 0,.int .i64 0,.int .i64 0,.int .i64 0,.int .i64 0,.int .i64 0,.int .i64 0],.c (.int .i64 12)]) [])) (cond (!decide (F.cn i st t x y sx sy h r ra c hi mi sl lt lx ly lh lc le c7 a=0)) (.ret (.fin (.aP [.agg [.int .i64 0,.int .i64 0,.int .i64 0,.int .i64 0,.int .i64 0,.int .i64 0,.int .i64 0,.int .i64 0,.int .i64 0,.int .i64 0,.int .i64 0,.int .i64 0,.int .i64 0,.int .i64 0,.int .i64 0,.int .i64 0,.int .i64 0,.int .i64 0,.int .i64 0,.int .i64 0],.c (.int .i64 q0)]) [])) (.aa ((F.b9 q9∧(F.b9 wg∧(F.b9 fy∧F.b9 fA)))) (cond (!(F.de (IntKind.wrap .i64 ZK) 0 8000000&&decide (F.iw q9 wg fy fA≤IntKind.wrap .i64 ZK*IntKind.wrap .i64 ZK))) (.ret (.fin (.aP [.agg [.int .i64 0,.int .i64 0,.int .i64 0,.int .i64 0,.int .i64 0,.int .i64 0,.int .i64 0,.int .i64 0,.int .i64 0,.int .i64 0,.int .i64 0,.int .i64 0,.int .i64 0,.int .i64 0,.int .i64 0,.int .i64 0,.int .i64 0,.int .i64 0,.int .i64 0,.int .i64 0],.c (.int .i64 8)]) [])) (.aa ((F.b9 q9∧(F.b9 fy∧((0:Int)≤pl∧pl≤256)))) (.aa ((F.b9 wg∧(F.b9 fA∧((0:Int)≤pl∧pl≤256)))) (.aa (((0:Int) < 256∧(ae (IntKind.wrap .i64 (IntKind.wrap .i64 (IntKind.wrap .i64 (256 - pl)*F.z q0 po)+IntKind.wrap .i64 (pl*se)))∧ae (-IntKind.wrap .i64 (IntKind.wrap .i64 (IntKind.wrap .i64 (256 - pl)*F.z q0 po)+IntKind.wrap .i64 (pl*se)))))) (.aa (((0:Int) < IntKind.wrap .i64 (c7 - lt)∧ae (IntKind.wrap .i64 (16*IntKind.wrap .i64 (fy - lx))))) (.aa (((0:Int) < IntKind.wrap .i64 (c7 - lt)∧ae (IntKind.wrap .i64 (16*IntKind.wrap .i64 (fA - ly))))) (.aa ((F.b9 (F.z q0 sx)∧(F.b9 q3∧((0:Int)≤sp∧sp≤256)))) (.aa ((F.b9 (F.z q0 sy)∧(F.b9 q4∧((0:Int)≤sp∧sp≤256)))) (.aa (((0:Int) < IntKind.wrap .i64 (c7 - lt)∧(ae (IntKind.wrap .i64 (16*IntKind.wrap .i64 (se+le)))∧ae (-IntKind.wrap .i64 (16*IntKind.wrap .i64 (se+le)))))) (.aa (((0:Int) < 256∧(ae (IntKind.wrap .i64 (IntKind.wrap .i64 (IntKind.wrap .i64 (256 - sp)*F.z q0 KF)+IntKind.wrap .i64 (sp*IntKind.wrap .i64 (IntKind.wrap .i64 (-(-IntKind.wrap .i64 (16*IntKind.wrap .i64 (se+le)) / IntKind.wrap .i64 (c7 - lt))+IntKind.wrap .i64 q8)+2))))∧ae (-IntKind.wrap .i64 (IntKind.wrap .i64 (IntKind.wrap .i64 (256 - sp)*F.z q0 KF)+IntKind.wrap .i64 (sp*IntKind.wrap .i64 (IntKind.wrap .i64 (-(-IntKind.wrap .i64 (16*IntKind.wrap .i64 (se+le)) / IntKind.wrap .i64 (c7 - lt))+IntKind.wrap .i64 q8)+2))))))) (.aa (((0:Int) < IntKind.wrap .i64 (c7 - lt)∧ae (IntKind.wrap .i64 (16*IntKind.wrap .i64 (sh - lh))))) (.aa ((-3200:Int)≤3200) (cond (!decide (sc= -1)) (cond (!decide (F.aM (F.z q0 i) (F.z q0 st) (F.z q0 c7) KG yL D7 D8 sh Qw q5 sc vH 0 q1 c7 fy fA sh sc se=0)) (.ret (.fin (.aP [.agg [.int .i64 0,.int .i64 0,.int .i64 0,.int .i64 0,.int .i64 0,.int .i64 0,.int .i64 0,.int .i64 0,.int .i64 0,.int .i64 0,.int .i64 0,.int .i64 0,.int .i64 0,.int .i64 0,.int .i64 0,.int .i64 0,.int .i64 0,.int .i64 0,.int .i64 0,.int .i64 0],.c (.int .i64 8)]) [])) (.ret (.fin (.aP [.agg [.int .i64 (F.z q0 i),.int .i64 (F.z q0 st),.int .i64 (F.z q0 c7),.int .i64 KG,.int .i64 yL,.int .i64 (F.vG (F.z q0 sx) q3 sp),.int .i64 (F.vG (F.z q0 sy) q4 sp),.int .i64 sh,.int .i64 (F.kL q6 (-3200) 3200),.int .i64 q7,.int .i64 sc,.int .i64 vH,.int .i64 0,.int .i64 q2,.int .i64 c7,.int .i64 fy,.int .i64 fA,.int .i64 sh,.int .i64 sc,.int .i64 se],.c (.int .i64 0)]) []))) (cond (!decide (F.aM (F.z q0 i) (F.z q0 st) (F.z q0 c7) KG yL D7 D8 sh Qw q5 (F.z q0 c) vH 0 q1 c7 fy fA sh sc se=0)) (.ret (.fin (.aP [.agg [.int .i64 0,.int .i64 0,.int .i64 0,.int .i64 0,.int .i64 0,.int .i64 0,.int .i64 0,.int .i64 0,.int .i64 0,.int .i64 0,.int .i64 0,.int .i64 0,.int .i64 0,.int .i64 0,.int .i64 0,.int .i64 0,.int .i64 0,.int .i64 0,.int .i64 0,.int .i64 0],.c (.int .i64 8)]) [])) (.ret (.fin (.aP [.agg [.int .i64 (F.z q0 i),.int .i64 (F.z q0 st),.int .i64 (F.z q0 c7),.int .i64 KG,.int .i64 yL,.int .i64 (F.vG (F.z q0 sx) q3 sp),.int .i64 (F.vG (F.z q0 sy) q4 sp),.int .i64 sh,.int .i64 (F.kL q6 (-3200) 3200),.int .i64 q7,.int .i64 (F.z q0 c),.int .i64 vH,.int .i64 0,.int .i64 q2,.int .i64 c7,.int .i64 fy,.int .i64 fA,.int .i64 sh,.int .i64 sc,.int .i64 se],.c (.int .i64 0)]) []))))))))))))))))))))))):=by kernel_rfl
theorem r8:Sound Tryz.prog cod 27 ze:=aW (cfg:=(As vM)) wG mixed Tryz.func27 rfl rfl _ 400 fun args H r news hg=>by
 unfold ze at hg;split at hg
 ·split at hg
  ·rename_i _ i st t x y sx sy h r ra c hi mi sl lt lx ly lh lc le _ c7 fy fA sh sc se a pl sp dn;have aJ:=b8 dn;simp only [List.map,oS,ints,List.tail] at aJ;subst aJ;clear dn;rw [H6];simp only [T.ah,T.wp,Prod.mk.injEq] at hg;obtain ⟨rfl,rfl⟩:=hg;simp only [T.wp,T.wp_cond,Fin.fin.injEq,SV.c.injEq,SV.aP.injEq,SV.agg.injEq,List.cons.injEq,Cell.int.injEq,and_true,true_and,decide_eq_true_eq];have hb:=gf (i:=i) (st:=st) (t:=t) (x:=x) (y:=y) (sx:=sx) (sy:=sy) (h:=h) (r:=r) (ra:=ra) (c:=c) (hi:=hi) (mi:=mi) (sl:=sl) (lt:=lt) (lx:=lx) (ly:=ly) (lh:=lh) (lc:=lc) (le:=le);have hU:F.dE i st t x y sx sy h r ra c hi mi sl lt lx ly lh lc le c7 fy fA sh sc se a pl sp=F.dE i st t x y sx sy h r ra c hi mi sl lt lx ly lh lc le c7 fy fA sh sc se a pl sp:=rfl
   conv at hU=>rhs;unfold F.dE
   generalize F.dE i st t x y sx sy h r ra c hi mi sl lt lx ly lh lc le c7 fy fA sh sc se a pl sp=W at hU ⊢;by_cases he:F.aM i st t x y sx sy h r ra c hi mi sl lt lx ly lh lc le=0
   ·obtain ⟨k1,k2,k3,k4,k5,k6,k7,k8,k9,k10,k11,k12,k13,k14,k15,k16⟩:=hb he;simp only [he] at hU ⊢;by_cases hs:F.spot c7 fy fA sh sc se=0
    ·have Xx:=lz hs;have gP:=lz k15;have hw0:IntKind.wrap .i64 (c7 - lt)=c7 - lt:=bM (by unfold ae;omega);simp only [hs,hw0,DZ] at hU ⊢;by_cases h1:F.de pl 0 256=true
     ·simp only [h1] at hU ⊢;by_cases h2:F.de sp 0 256=true
      ·simp only [h2] at hU ⊢;by_cases h3:c7 - lt≤0
       ·simp [h3] at hU;simp [h3,F.z,hU]
       ·by_cases hp:F.cn i st t x y sx sy h r ra c hi mi sl lt lx ly lh lc le c7 a=0
        ·obtain ⟨p1,p2,p3,p4⟩:=yK hp he;obtain ⟨m1,m2,m3,m4,m5,m6,m7,m8,m9,m10,-⟩:=gf p4;simp only [hp,z0,h3] at hU ⊢;unfold F.usp F.H7 F.Xi F.usl F.um F.H5 at hU;unfold F.usp F.H7 F.Xi F.usl F.um F.H5;generalize (F.px x sx (c7 - t))=P1 at*;generalize (F.px y sy (c7 - t))=P2 at*;generalize (F.pr ra sl a (c7 - t))=P3 at*;generalize (F.ps sl a (c7 - t))=P4 at*
         obtain ⟨⟨w1,w2,w3⟩,⟨w4,w5,w6,w7,w8,w9⟩,⟨w10,w11,w12⟩,⟨w13,w14,w15⟩,⟨w16,w17,w18,w19,w20,w21,w22⟩,⟨w23,w24,w25,w26,w27,w28⟩,⟨w29,w30⟩⟩:=
          Xg (d:=c7 - lt) m5 m10 Xx.2.1 Xx.2.2.1 Xx.2.2.2.1 Xx.2.2.2.2.2 gP.2.1 gP.2.2.1 gP.2.2.2.1 gP.2.2.2.2.2 (bN.1 p2) (bN.1 h1) (bN.1 h2) (by omega)
         have b1:F.b9 P1∧F.b9 P2∧F.b9 fy∧F.b9 fA∧F.b9 sx∧F.b9 sy:=by unfold F.b9;omega
         obtain ⟨b1,b2,b3,b4,b5,b6⟩:=b1;have jj:=bN.1 h1;have oQ:=bN.1 h2;have hd0:0 < c7 - lt:=by omega
         simp only [bM w1,bM w4,bM w5,bM w6,bM w7,bM w9,bM w10,bM w11,bM w13,bM w14,bM w16,bM w17,bM w19,bM w20,bM w21,bM w22,bM w23,bM w24,bM w25,bM w26,bM w28,bM w29,bM w30,
          b1,b2,b3,b4,b5,b6,w3,w7,w8,w11,w12,w14,w15,w17,w18,w26,w27,w30,hd0,jj,oQ,and_self,true_and,and_true]
         by_cases hf:(P3+se)*(P3+se) < F.iw P1 P2 fy fA
         ·have hf':¬F.iw P1 P2 fy fA≤(P3+se)*(P3+se):=by omega
          simp [hf] at hU;simp [hf',hU,F.z]
         ·have hf':F.iw P1 P2 fy fA≤(P3+se)*(P3+se):=by omega
          by_cases BD:sc= -1
          ·subst BD;simp only [if_true,hf,if_false,Bool.and_self] at hU;simp only [if_true,hf'];generalize F.aM i st c7 (F.vG P1 fy pl) (F.vG P2 fA pl) (F.vG sx (16*(fy - lx) / (c7 - lt)) sp) (F.vG sy (16*(fA - ly) / (c7 - lt)) sp) sh (F.kL (16*(sh - lh) / (c7 - lt)) (-3200) 3200) (-(-((256 - pl)*P3+pl*se) / 256)+2) c (IntKind.wrap .i64 (hi+1)) 0 (-(-((256 - sp)*P4+sp*(-(-(16*(se+le)) / (c7 - lt))+16*a*(c7 - lt)+2)) / 256)+2) c7 fy fA sh (-1) se=U at hU ⊢;by_cases hu:U=0
           ·simp [hu] at hU;simp [hu,hU,F.z]
           ·simp [hu] at hU;simp [hu,hU,F.z]
          ·simp only [if_true,hf,if_false,Bool.and_self,BD] at hU;simp only [hf',BD,if_false];generalize F.aM i st c7 (F.vG P1 fy pl) (F.vG P2 fA pl) (F.vG sx (16*(fy - lx) / (c7 - lt)) sp) (F.vG sy (16*(fA - ly) / (c7 - lt)) sp) sh (F.kL (16*(sh - lh) / (c7 - lt)) (-3200) 3200) (-(-((256 - pl)*P3+pl*se) / 256)+2) sc (IntKind.wrap .i64 (hi+1)) 0 (-(-((256 - sp)*P4+sp*(-(-(16*(se+le)) / (c7 - lt))+16*a*(c7 - lt)+2)) / 256)+2) c7 fy fA sh sc se=U at hU ⊢;by_cases hu:U=0
           ·simp [hu] at hU;simp [hu,hU,F.z]
           ·simp [hu] at hU;simp [hu,hU,F.z]
        ·simp [h3,hp] at hU;simp [h3,hp,hU,F.z]
      ·simp [h2] at hU;simp [h2,hU,F.z]
     ·simp [h1] at hU;simp [h1,hU,F.z]
    ·simp [hs] at hU;simp [hs,hU,F.z]
   ·simp [he] at hU;simp [he,hU,F.z]
  ·exact hg.elim
 ·exact hg.elim
def Fp:aQ cod:=(27,.p ze)::vM
theorem Fq:cv Tryz.prog cod Fp:=.cons r8 wG
end
end
section
namespace F
def pop:Nat→Nat→Nat
 | 0,_=>0
 | k+1,n=>n % 2+pop k (n / 2)
def swn (x:Nat):Nat:=
 let a:=((x >>> 1)&&& 6148914691236517205)+(x&&& 6148914691236517205)
 let b:=((a >>> 2)&&& 3689348814741910323)+(a&&& 3689348814741910323)
 let c:=((b >>> 4)+b)&&& 1085102592571150095
 let d:=c+(c >>> 8)
 let e:=d+(d >>> 16)
 e+(e >>> 32)
end F
theorem PJ (k a b x y:Nat) (hx:x < 2^k) (hy:y < 2^k):(2^k*a+x)&&& (2^k*b+y)=2^k*(a&&& b)+(x&&& y):=by
 apply Nat.eq_of_testBit_eq;intro i;rw [Nat.testBit_and,Nat.testBit_two_pow_mul_add _ hx,Nat.testBit_two_pow_mul_add _ hy,Nat.testBit_two_pow_mul_add _ (Nat.lt_of_le_of_lt Nat.and_le_left hx)];split<;>simp
theorem afu (k x a m:Nat) (hx:x < 2^k):(x+2^k*a)&&& m=(x&&& (m % 2^k))+2^k*(a&&& (m / 2^k)):=by
 have h:=PJ k a (m / 2^k) x (m % 2^k) hx (Nat.mod_lt _ (Nat.two_pow_pos k));rw [Nat.div_add_mod,Nat.add_comm] at h;rw [h,Nat.add_comm]
theorem dO (x a m:Nat) (hx:x < 16):(x+16*a)&&& m=(x&&& (m % 16))+16*(a&&& (m / 16)):=afu 4 x a m hx
def f1 (h:Nat):Nat:=((h / 2)&&& 5)+(h&&& 5)
theorem vS:∀h,h < 16→∀c,c < 2→(h / 2+8*c)&&& 5=(h / 2)&&& 5:=by decide
theorem M3:∀h,h < 16→f1 h < 16:=by decide
theorem Yw:∀h,h < 16→∀c,c < 4→((f1 h / 4+4*c)&&& 3)+(f1 h&&& 3)=F.pop 4 h:=by decide
theorem NO:∀h,h < 16→F.pop 4 h≤4:=by decide
theorem D2 (k x r:Nat) (hx:x < 16):F.pop (k+4) (x+16*r)=F.pop 4 x+F.pop k r:=by
 have h1:(x+16*r) % 2=x % 2:=by omega
 have h2:(x+16*r) / 2 % 2=x / 2 % 2:=by omega
 have h3:(x+16*r) / 2 / 2 % 2=x / 2 / 2 % 2:=by omega
 have h4:(x+16*r) / 2 / 2 / 2 % 2=x / 2 / 2 / 2 % 2:=by omega
 have h5:(x+16*r) / 2 / 2 / 2 / 2=r:=by omega
 simp only [F.pop,h1,h2,h3,h4,h5];omega
theorem afI (a b c d:Nat) (ha:a < 16) (hb:b < 16) (hc:c < 16):F.pop 16 (a+16*(b+16*(c+16*d)))=F.pop 4 a+F.pop 4 b+F.pop 4 c+F.pop 4 d:=by
 rw [show 16=12+4 from rfl,D2 12 a _ ha,show 12=8+4 from rfl,D2 8 b _ hb,show 8=4+4 from rfl,D2 4 c _ hc];omega
theorem Dl (h c:Nat) (hh:h < 16) (hc:c < 4):((f1 h / 4+4*c)&&& 3)+(f1 h&&& 3)=F.pop 4 h:=Yw h hh c hc
theorem aai (n:Nat) (h:n < 65536):F.swn n < 65536∧F.swn n % 128=F.pop 16 n:=by
 obtain ⟨a,n,ha,rfl⟩:∃b r,b < 16∧n=b+16*r:=⟨n % 16,n / 16,by omega,by omega⟩;obtain ⟨b,n,hb,rfl⟩:∃b r,b < 16∧n=b+16*r:=⟨n % 16,n / 16,by omega,by omega⟩;obtain ⟨c,n,hc,rfl⟩:∃b r,b < 16∧n=b+16*r:=⟨n % 16,n / 16,by omega,by omega⟩;obtain ⟨d,n,hd,rfl⟩:∃b r,b < 16∧n=b+16*r:=⟨n % 16,n / 16,by omega,by omega⟩;obtain rfl:n=0:=by omega
 simp only [Nat.mul_zero,Nat.add_zero];rw [afI a b c d ha hb hc];unfold F.swn;have e1:(a+16*(b+16*(c+16*d))) >>> 1=(a / 2+8*(b % 2))+16*((b / 2+8*(c % 2))+16*((c / 2+8*(d % 2))+16*((d / 2+8*0)+16*0))):=by rw [Nat.shiftRight_eq_div_pow];omega
 have e2:a+16*(b+16*(c+16*d))=a+16*(b+16*(c+16*(d+16*0))):=by omega
 rw [e1,e2];rw [dO (a / 2+8*(b % 2)) _ _ (by omega),dO (b / 2+8*(c % 2)) _ _ (by omega),dO (c / 2+8*(d % 2)) _ _ (by omega),dO (d / 2+8*0) _ _ (by omega),dO a _ _ ha,dO b _ _ hb,dO c _ _ hc,dO d _ _ hd];simp only [Nat.reduceMod,Nat.reduceDiv,Nat.zero_and];rw [vS a ha _ (by omega),vS b hb _ (by omega),vS c hc _ (by omega),vS d hd 0 (by omega)];have e3:((a / 2)&&& 5)+16*(((b / 2)&&& 5)+16*(((c / 2)&&& 5)+16*(((d / 2)&&& 5)+16*0)))+((a&&& 5)+16*((b&&& 5)+16*((c&&& 5)+16*((d&&& 5)+16*0))))=f1 a+16*(f1 b+16*(f1 c+16*(f1 d+16*0))):=by unfold f1;omega
 rw [e3];have q1:=M3 a ha;have q2:=M3 b hb;have q3:=M3 c hc;have q4:=M3 d hd;have s1:=Dl a (f1 b % 4) ha (by omega);have s2:=Dl b (f1 c % 4) hb (by omega);have s3:=Dl c (f1 d % 4) hc (by omega);have s4:=Dl d 0 hd (by omega);generalize f1 a=A at*;generalize f1 b=B at*;generalize f1 c=C at*;generalize f1 d=D at*;have e4:(A+16*(B+16*(C+16*(D+16*0)))) >>> 2=(A / 4+4*(B % 4))+16*((B / 4+4*(C % 4))+16*((C / 4+4*(D % 4))+16*((D / 4+4*0)+16*0))):=by rw [Nat.shiftRight_eq_div_pow];omega
 rw [e4];rw [dO (A / 4+4*(B % 4)) _ _ (by omega),dO (B / 4+4*(C % 4)) _ _ (by omega),dO (C / 4+4*(D % 4)) _ _ (by omega),dO (D / 4+4*0) _ _ (by omega),dO A _ _ q1,dO B _ _ q2,dO C _ _ q3,dO D _ _ q4];simp only [Nat.reduceMod,Nat.reduceDiv,Nat.zero_and];have r1:=NO a ha;have r2:=NO b hb;have r3:=NO c hc;have r4:=NO d hd;generalize hX:((A / 4+4*(B % 4))&&& 3)+16*(((B / 4+4*(C % 4))&&& 3)+16*(((C / 4+4*(D % 4))&&& 3)+16*(((D / 4+4*0)&&& 3)+16*0)))+((A&&& 3)+16*((B&&& 3)+16*((C&&& 3)+16*((D&&& 3)+16*0))))=X
 have e5:X=F.pop 4 a+16*(F.pop 4 b+16*(F.pop 4 c+16*(F.pop 4 d+16*0))):=by
  rw [←hX];generalize (A / 4+4*(B % 4))&&& 3=u1 at*;generalize (B / 4+4*(C % 4))&&& 3=u2 at*;generalize (C / 4+4*(D % 4))&&& 3=u3 at*;generalize (D / 4+4*0)&&& 3=u4 at*;omega
 rw [e5];clear e5 hX X s1 s2 s3 s4 e4 q1 q2 q3 q4 e3 e1 e2 h;generalize F.pop 4 a=A' at*;generalize F.pop 4 b=B' at*;generalize F.pop 4 c=C' at*;generalize F.pop 4 d=D' at*;have e6:(A'+16*(B'+16*(C'+16*(D'+16*0)))) >>> 4+(A'+16*(B'+16*(C'+16*(D'+16*0))))=(A'+B')+16*((B'+C')+16*((C'+D')+16*(D'+16*0))):=by rw [Nat.shiftRight_eq_div_pow];omega
 rw [e6,dO (A'+B') _ _ (by omega),dO (B'+C') _ _ (by omega),dO (C'+D') _ _ (by omega),dO D' _ _ (by omega)];simp only [Nat.reduceMod,Nat.reduceDiv,Nat.zero_and,Nat.and_zero];have m15:∀x,x < 16→x&&& 15=x:=by decide
 rw [m15 (A'+B') (by omega),m15 (C'+D') (by omega)];clear e6 m15;generalize hX:A'+B'+16*(0+16*(C'+D'+16*(0+16*0)))=X;have x1:X >>> 8=C'+D':=by rw [Nat.shiftRight_eq_div_pow];omega
 have x2:(X+(C'+D')) >>> 16=0:=by rw [Nat.shiftRight_eq_div_pow];omega
 have x3:(X+(C'+D')+0) >>> 32=0:=by rw [Nat.shiftRight_eq_div_pow];omega
 simp only [x1,x2,x3];omega
end
end Go.Proofs.YtcjagpfbhnmggaaGreatDoor
