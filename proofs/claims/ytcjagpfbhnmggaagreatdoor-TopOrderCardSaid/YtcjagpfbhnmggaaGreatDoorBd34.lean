/- Parts of the proof. -/
import Derived.Test.YtcjagpfbhnmggaaGreatDoorBd24
import Derived.Test.YtcjagpfbhnmggaaGreatDoorBd33
namespace Go.Proofs.YtcjagpfbhnmggaaGreatDoor
section
open Sym Go.RowKit
noncomputable section
set_option maxRecDepth 100000
set_option maxHeartbeats 4000000
noncomputable def aaF:aQ cod:=aea++(Fp++(SC++(wM++(Fh++(Fl++(R6++(R2++[])))))))
theorem RZ:cv Tryz.prog cod aaF:=XG.append (Fq.append (On.append (Aa.append (Fi.append (Fm.append (jo.append (Of.append .nil)))))))
namespace F
noncomputable def G5 (x:cU):Int:=aM x.t.id x.t.st x.t.tm x.t.x x.t.y x.t.sx x.t.sy x.t.hg x.t.rt x.t.ra x.t.cd x.t.ht x.t.ms x.sl x.lt x.lx x.ly x.lh x.lc x.le
noncomputable def ctk (x:dT):Int:=lC x.tm x.x x.y x.hg x.ra x.cd
noncomputable def D3 (x:cU) (n a:Int):Int:=cn x.t.id x.t.st x.t.tm x.t.x x.t.y x.t.sx x.t.sy x.t.hg x.t.rt x.t.ra x.t.cd x.t.ht x.t.ms x.sl x.lt x.lx x.ly x.lh x.lc x.le n a
noncomputable def prd (x:cU) (n a:Int):cU:=cU.mk (dT.mk (z (cn x.t.id x.t.st x.t.tm x.t.x x.t.y x.t.sx x.t.sy x.t.hg x.t.rt x.t.ra x.t.cd x.t.ht x.t.ms x.sl x.lt x.lx x.ly x.lh x.lc x.le n a) x.t.id) (z (cn x.t.id x.t.st x.t.tm x.t.x x.t.y x.t.sx x.t.sy x.t.hg x.t.rt x.t.ra x.t.cd x.t.ht x.t.ms x.sl x.lt x.lx x.ly x.lh x.lc x.le n a) x.t.st) (z (cn x.t.id x.t.st x.t.tm x.t.x x.t.y x.t.sx x.t.sy x.t.hg x.t.rt x.t.ra x.t.cd x.t.ht x.t.ms x.sl x.lt x.lx x.ly x.lh x.lc x.le n a) n) (z (cn x.t.id x.t.st x.t.tm x.t.x x.t.y x.t.sx x.t.sy x.t.hg x.t.rt x.t.ra x.t.cd x.t.ht x.t.ms x.sl x.lt x.lx x.ly x.lh x.lc x.le n a) (px x.t.x x.t.sx (n - x.t.tm))) (z (cn x.t.id x.t.st x.t.tm x.t.x x.t.y x.t.sx x.t.sy x.t.hg x.t.rt x.t.ra x.t.cd x.t.ht x.t.ms x.sl x.lt x.lx x.ly x.lh x.lc x.le n a) (px x.t.y x.t.sy (n - x.t.tm))) (z (cn x.t.id x.t.st x.t.tm x.t.x x.t.y x.t.sx x.t.sy x.t.hg x.t.rt x.t.ra x.t.cd x.t.ht x.t.ms x.sl x.lt x.lx x.ly x.lh x.lc x.le n a) x.t.sx) (z (cn x.t.id x.t.st x.t.tm x.t.x x.t.y x.t.sx x.t.sy x.t.hg x.t.rt x.t.ra x.t.cd x.t.ht x.t.ms x.sl x.lt x.lx x.ly x.lh x.lc x.le n a) x.t.sy) (z (cn x.t.id x.t.st x.t.tm x.t.x x.t.y x.t.sx x.t.sy x.t.hg x.t.rt x.t.ra x.t.cd x.t.ht x.t.ms x.sl x.lt x.lx x.ly x.lh x.lc x.le n a) (ph x.t.hg x.t.rt (n - x.t.tm))) (z (cn x.t.id x.t.st x.t.tm x.t.x x.t.y x.t.sx x.t.sy x.t.hg x.t.rt x.t.ra x.t.cd x.t.ht x.t.ms x.sl x.lt x.lx x.ly x.lh x.lc x.le n a) x.t.rt) (z (cn x.t.id x.t.st x.t.tm x.t.x x.t.y x.t.sx x.t.sy x.t.hg x.t.rt x.t.ra x.t.cd x.t.ht x.t.ms x.sl x.lt x.lx x.ly x.lh x.lc x.le n a) (pr x.t.ra x.sl a (n - x.t.tm))) (z (cn x.t.id x.t.st x.t.tm x.t.x x.t.y x.t.sx x.t.sy x.t.hg x.t.rt x.t.ra x.t.cd x.t.ht x.t.ms x.sl x.lt x.lx x.ly x.lh x.lc x.le n a) x.t.cd) (z (cn x.t.id x.t.st x.t.tm x.t.x x.t.y x.t.sx x.t.sy x.t.hg x.t.rt x.t.ra x.t.cd x.t.ht x.t.ms x.sl x.lt x.lx x.ly x.lh x.lc x.le n a) x.t.ht) (z (cn x.t.id x.t.st x.t.tm x.t.x x.t.y x.t.sx x.t.sy x.t.hg x.t.rt x.t.ra x.t.cd x.t.ht x.t.ms x.sl x.lt x.lx x.ly x.lh x.lc x.le n a) x.t.ms)) (z (cn x.t.id x.t.st x.t.tm x.t.x x.t.y x.t.sx x.t.sy x.t.hg x.t.rt x.t.ra x.t.cd x.t.ht x.t.ms x.sl x.lt x.lx x.ly x.lh x.lc x.le n a) (ps x.sl a (n - x.t.tm))) (z (cn x.t.id x.t.st x.t.tm x.t.x x.t.y x.t.sx x.t.sy x.t.hg x.t.rt x.t.ra x.t.cd x.t.ht x.t.ms x.sl x.lt x.lx x.ly x.lh x.lc x.le n a) x.lt) (z (cn x.t.id x.t.st x.t.tm x.t.x x.t.y x.t.sx x.t.sy x.t.hg x.t.rt x.t.ra x.t.cd x.t.ht x.t.ms x.sl x.lt x.lx x.ly x.lh x.lc x.le n a) x.lx) (z (cn x.t.id x.t.st x.t.tm x.t.x x.t.y x.t.sx x.t.sy x.t.hg x.t.rt x.t.ra x.t.cd x.t.ht x.t.ms x.sl x.lt x.lx x.ly x.lh x.lc x.le n a) x.ly) (z (cn x.t.id x.t.st x.t.tm x.t.x x.t.y x.t.sx x.t.sy x.t.hg x.t.rt x.t.ra x.t.cd x.t.ht x.t.ms x.sl x.lt x.lx x.ly x.lh x.lc x.le n a) x.lh) (z (cn x.t.id x.t.st x.t.tm x.t.x x.t.y x.t.sx x.t.sy x.t.hg x.t.rt x.t.ra x.t.cd x.t.ht x.t.ms x.sl x.lt x.lx x.ly x.lh x.lc x.le n a) x.lc) (z (cn x.t.id x.t.st x.t.tm x.t.x x.t.y x.t.sx x.t.sy x.t.hg x.t.rt x.t.ra x.t.cd x.t.ht x.t.ms x.sl x.lt x.lx x.ly x.lh x.lc x.le n a) x.le)
noncomputable def YS (x:cU):cU:=cU.mk (dT.mk (z (aM x.t.id x.t.st x.t.tm x.t.x x.t.y x.t.sx x.t.sy x.t.hg x.t.rt x.t.ra x.t.cd x.t.ht x.t.ms x.sl x.lt x.lx x.ly x.lh x.lc x.le) x.t.id) (z (aM x.t.id x.t.st x.t.tm x.t.x x.t.y x.t.sx x.t.sy x.t.hg x.t.rt x.t.ra x.t.cd x.t.ht x.t.ms x.sl x.lt x.lx x.ly x.lh x.lc x.le) (ch x.t.st)) (z (aM x.t.id x.t.st x.t.tm x.t.x x.t.y x.t.sx x.t.sy x.t.hg x.t.rt x.t.ra x.t.cd x.t.ht x.t.ms x.sl x.lt x.lx x.ly x.lh x.lc x.le) x.t.tm) (z (aM x.t.id x.t.st x.t.tm x.t.x x.t.y x.t.sx x.t.sy x.t.hg x.t.rt x.t.ra x.t.cd x.t.ht x.t.ms x.sl x.lt x.lx x.ly x.lh x.lc x.le) x.t.x) (z (aM x.t.id x.t.st x.t.tm x.t.x x.t.y x.t.sx x.t.sy x.t.hg x.t.rt x.t.ra x.t.cd x.t.ht x.t.ms x.sl x.lt x.lx x.ly x.lh x.lc x.le) x.t.y) (z (aM x.t.id x.t.st x.t.tm x.t.x x.t.y x.t.sx x.t.sy x.t.hg x.t.rt x.t.ra x.t.cd x.t.ht x.t.ms x.sl x.lt x.lx x.ly x.lh x.lc x.le) x.t.sx) (z (aM x.t.id x.t.st x.t.tm x.t.x x.t.y x.t.sx x.t.sy x.t.hg x.t.rt x.t.ra x.t.cd x.t.ht x.t.ms x.sl x.lt x.lx x.ly x.lh x.lc x.le) x.t.sy) (z (aM x.t.id x.t.st x.t.tm x.t.x x.t.y x.t.sx x.t.sy x.t.hg x.t.rt x.t.ra x.t.cd x.t.ht x.t.ms x.sl x.lt x.lx x.ly x.lh x.lc x.le) x.t.hg) (z (aM x.t.id x.t.st x.t.tm x.t.x x.t.y x.t.sx x.t.sy x.t.hg x.t.rt x.t.ra x.t.cd x.t.ht x.t.ms x.sl x.lt x.lx x.ly x.lh x.lc x.le) x.t.rt) (z (aM x.t.id x.t.st x.t.tm x.t.x x.t.y x.t.sx x.t.sy x.t.hg x.t.rt x.t.ra x.t.cd x.t.ht x.t.ms x.sl x.lt x.lx x.ly x.lh x.lc x.le) x.t.ra) (z (aM x.t.id x.t.st x.t.tm x.t.x x.t.y x.t.sx x.t.sy x.t.hg x.t.rt x.t.ra x.t.cd x.t.ht x.t.ms x.sl x.lt x.lx x.ly x.lh x.lc x.le) x.t.cd) (z (aM x.t.id x.t.st x.t.tm x.t.x x.t.y x.t.sx x.t.sy x.t.hg x.t.rt x.t.ra x.t.cd x.t.ht x.t.ms x.sl x.lt x.lx x.ly x.lh x.lc x.le) x.t.ht) (z (aM x.t.id x.t.st x.t.tm x.t.x x.t.y x.t.sx x.t.sy x.t.hg x.t.rt x.t.ra x.t.cd x.t.ht x.t.ms x.sl x.lt x.lx x.ly x.lh x.lc x.le) 0)) (z (aM x.t.id x.t.st x.t.tm x.t.x x.t.y x.t.sx x.t.sy x.t.hg x.t.rt x.t.ra x.t.cd x.t.ht x.t.ms x.sl x.lt x.lx x.ly x.lh x.lc x.le) x.sl) (z (aM x.t.id x.t.st x.t.tm x.t.x x.t.y x.t.sx x.t.sy x.t.hg x.t.rt x.t.ra x.t.cd x.t.ht x.t.ms x.sl x.lt x.lx x.ly x.lh x.lc x.le) x.lt) (z (aM x.t.id x.t.st x.t.tm x.t.x x.t.y x.t.sx x.t.sy x.t.hg x.t.rt x.t.ra x.t.cd x.t.ht x.t.ms x.sl x.lt x.lx x.ly x.lh x.lc x.le) x.lx) (z (aM x.t.id x.t.st x.t.tm x.t.x x.t.y x.t.sx x.t.sy x.t.hg x.t.rt x.t.ra x.t.cd x.t.ht x.t.ms x.sl x.lt x.lx x.ly x.lh x.lc x.le) x.ly) (z (aM x.t.id x.t.st x.t.tm x.t.x x.t.y x.t.sx x.t.sy x.t.hg x.t.rt x.t.ra x.t.cd x.t.ht x.t.ms x.sl x.lt x.lx x.ly x.lh x.lc x.le) x.lh) (z (aM x.t.id x.t.st x.t.tm x.t.x x.t.y x.t.sx x.t.sy x.t.hg x.t.rt x.t.ra x.t.cd x.t.ht x.t.ms x.sl x.lt x.lx x.ly x.lh x.lc x.le) x.lc) (z (aM x.t.id x.t.st x.t.tm x.t.x x.t.y x.t.sx x.t.sy x.t.hg x.t.rt x.t.ra x.t.cd x.t.ht x.t.ms x.sl x.lt x.lx x.ly x.lh x.lc x.le) x.le)
noncomputable def Au (x:cU) (n:Int):Int:=cC x.t.id x.t.st x.t.tm x.t.x x.t.y x.t.sx x.t.sy x.t.hg x.t.rt x.t.ra x.t.cd x.t.ht x.t.ms x.sl x.lt x.lx x.ly x.lh x.lc x.le n
noncomputable def Vo (x:cU) (n:Int):cU:=cU.mk (dT.mk (z (cC x.t.id x.t.st x.t.tm x.t.x x.t.y x.t.sx x.t.sy x.t.hg x.t.rt x.t.ra x.t.cd x.t.ht x.t.ms x.sl x.lt x.lx x.ly x.lh x.lc x.le n) x.t.id) (z (cC x.t.id x.t.st x.t.tm x.t.x x.t.y x.t.sx x.t.sy x.t.hg x.t.rt x.t.ra x.t.cd x.t.ht x.t.ms x.sl x.lt x.lx x.ly x.lh x.lc x.le n) (cs x.t.st)) (z (cC x.t.id x.t.st x.t.tm x.t.x x.t.y x.t.sx x.t.sy x.t.hg x.t.rt x.t.ra x.t.cd x.t.ht x.t.ms x.sl x.lt x.lx x.ly x.lh x.lc x.le n) x.t.tm) (z (cC x.t.id x.t.st x.t.tm x.t.x x.t.y x.t.sx x.t.sy x.t.hg x.t.rt x.t.ra x.t.cd x.t.ht x.t.ms x.sl x.lt x.lx x.ly x.lh x.lc x.le n) x.t.x) (z (cC x.t.id x.t.st x.t.tm x.t.x x.t.y x.t.sx x.t.sy x.t.hg x.t.rt x.t.ra x.t.cd x.t.ht x.t.ms x.sl x.lt x.lx x.ly x.lh x.lc x.le n) x.t.y) (z (cC x.t.id x.t.st x.t.tm x.t.x x.t.y x.t.sx x.t.sy x.t.hg x.t.rt x.t.ra x.t.cd x.t.ht x.t.ms x.sl x.lt x.lx x.ly x.lh x.lc x.le n) x.t.sx) (z (cC x.t.id x.t.st x.t.tm x.t.x x.t.y x.t.sx x.t.sy x.t.hg x.t.rt x.t.ra x.t.cd x.t.ht x.t.ms x.sl x.lt x.lx x.ly x.lh x.lc x.le n) x.t.sy) (z (cC x.t.id x.t.st x.t.tm x.t.x x.t.y x.t.sx x.t.sy x.t.hg x.t.rt x.t.ra x.t.cd x.t.ht x.t.ms x.sl x.lt x.lx x.ly x.lh x.lc x.le n) x.t.hg) (z (cC x.t.id x.t.st x.t.tm x.t.x x.t.y x.t.sx x.t.sy x.t.hg x.t.rt x.t.ra x.t.cd x.t.ht x.t.ms x.sl x.lt x.lx x.ly x.lh x.lc x.le n) x.t.rt) (z (cC x.t.id x.t.st x.t.tm x.t.x x.t.y x.t.sx x.t.sy x.t.hg x.t.rt x.t.ra x.t.cd x.t.ht x.t.ms x.sl x.lt x.lx x.ly x.lh x.lc x.le n) x.t.ra) (z (cC x.t.id x.t.st x.t.tm x.t.x x.t.y x.t.sx x.t.sy x.t.hg x.t.rt x.t.ra x.t.cd x.t.ht x.t.ms x.sl x.lt x.lx x.ly x.lh x.lc x.le n) x.t.cd) (z (cC x.t.id x.t.st x.t.tm x.t.x x.t.y x.t.sx x.t.sy x.t.hg x.t.rt x.t.ra x.t.cd x.t.ht x.t.ms x.sl x.lt x.lx x.ly x.lh x.lc x.le n) x.t.ht) (z (cC x.t.id x.t.st x.t.tm x.t.x x.t.y x.t.sx x.t.sy x.t.hg x.t.rt x.t.ra x.t.cd x.t.ht x.t.ms x.sl x.lt x.lx x.ly x.lh x.lc x.le n) (cm x.t.ms))) (z (cC x.t.id x.t.st x.t.tm x.t.x x.t.y x.t.sx x.t.sy x.t.hg x.t.rt x.t.ra x.t.cd x.t.ht x.t.ms x.sl x.lt x.lx x.ly x.lh x.lc x.le n) x.sl) (z (cC x.t.id x.t.st x.t.tm x.t.x x.t.y x.t.sx x.t.sy x.t.hg x.t.rt x.t.ra x.t.cd x.t.ht x.t.ms x.sl x.lt x.lx x.ly x.lh x.lc x.le n) x.lt) (z (cC x.t.id x.t.st x.t.tm x.t.x x.t.y x.t.sx x.t.sy x.t.hg x.t.rt x.t.ra x.t.cd x.t.ht x.t.ms x.sl x.lt x.lx x.ly x.lh x.lc x.le n) x.lx) (z (cC x.t.id x.t.st x.t.tm x.t.x x.t.y x.t.sx x.t.sy x.t.hg x.t.rt x.t.ra x.t.cd x.t.ht x.t.ms x.sl x.lt x.lx x.ly x.lh x.lc x.le n) x.ly) (z (cC x.t.id x.t.st x.t.tm x.t.x x.t.y x.t.sx x.t.sy x.t.hg x.t.rt x.t.ra x.t.cd x.t.ht x.t.ms x.sl x.lt x.lx x.ly x.lh x.lc x.le n) x.lh) (z (cC x.t.id x.t.st x.t.tm x.t.x x.t.y x.t.sx x.t.sy x.t.hg x.t.rt x.t.ra x.t.cd x.t.ht x.t.ms x.sl x.lt x.lx x.ly x.lh x.lc x.le n) x.lc) (z (cC x.t.id x.t.st x.t.tm x.t.x x.t.y x.t.sx x.t.sy x.t.hg x.t.rt x.t.ra x.t.cd x.t.ht x.t.ms x.sl x.lt x.lx x.ly x.lh x.lc x.le n) x.le)
noncomputable def DQ (x:cU) (n:Int):Bool:=decide (Au x n=0)&&decide (n < cm x.t.ms)
noncomputable def upE (x:cU) (s:Sp) (a pl sp:Int):Int:=dE x.t.id x.t.st x.t.tm x.t.x x.t.y x.t.sx x.t.sy x.t.hg x.t.rt x.t.ra x.t.cd x.t.ht x.t.ms x.sl x.lt x.lx x.ly x.lh x.lc x.le s.1 s.2.1 s.2.2.1 s.2.2.2.1 s.2.2.2.2.1 s.2.2.2.2.2 a pl sp
noncomputable def upd (x:cU) (s:Sp) (a pl sp:Int):cU:=cU.mk (dT.mk (z (dE x.t.id x.t.st x.t.tm x.t.x x.t.y x.t.sx x.t.sy x.t.hg x.t.rt x.t.ra x.t.cd x.t.ht x.t.ms x.sl x.lt x.lx x.ly x.lh x.lc x.le s.1 s.2.1 s.2.2.1 s.2.2.2.1 s.2.2.2.2.1 s.2.2.2.2.2 a pl sp) x.t.id) (z (dE x.t.id x.t.st x.t.tm x.t.x x.t.y x.t.sx x.t.sy x.t.hg x.t.rt x.t.ra x.t.cd x.t.ht x.t.ms x.sl x.lt x.lx x.ly x.lh x.lc x.le s.1 s.2.1 s.2.2.1 s.2.2.2.1 s.2.2.2.2.1 s.2.2.2.2.2 a pl sp) x.t.st) (z (dE x.t.id x.t.st x.t.tm x.t.x x.t.y x.t.sx x.t.sy x.t.hg x.t.rt x.t.ra x.t.cd x.t.ht x.t.ms x.sl x.lt x.lx x.ly x.lh x.lc x.le s.1 s.2.1 s.2.2.1 s.2.2.2.1 s.2.2.2.2.1 s.2.2.2.2.2 a pl sp) s.1) (z (dE x.t.id x.t.st x.t.tm x.t.x x.t.y x.t.sx x.t.sy x.t.hg x.t.rt x.t.ra x.t.cd x.t.ht x.t.ms x.sl x.lt x.lx x.ly x.lh x.lc x.le s.1 s.2.1 s.2.2.1 s.2.2.2.1 s.2.2.2.2.1 s.2.2.2.2.2 a pl sp) (vG (px x.t.x x.t.sx (s.1 - x.t.tm)) s.2.1 pl)) (z (dE x.t.id x.t.st x.t.tm x.t.x x.t.y x.t.sx x.t.sy x.t.hg x.t.rt x.t.ra x.t.cd x.t.ht x.t.ms x.sl x.lt x.lx x.ly x.lh x.lc x.le s.1 s.2.1 s.2.2.1 s.2.2.2.1 s.2.2.2.2.1 s.2.2.2.2.2 a pl sp) (vG (px x.t.y x.t.sy (s.1 - x.t.tm)) s.2.2.1 pl)) (z (dE x.t.id x.t.st x.t.tm x.t.x x.t.y x.t.sx x.t.sy x.t.hg x.t.rt x.t.ra x.t.cd x.t.ht x.t.ms x.sl x.lt x.lx x.ly x.lh x.lc x.le s.1 s.2.1 s.2.2.1 s.2.2.2.1 s.2.2.2.2.1 s.2.2.2.2.2 a pl sp) (usp x.t.sx s.2.1 x.lx (s.1 - x.lt) sp)) (z (dE x.t.id x.t.st x.t.tm x.t.x x.t.y x.t.sx x.t.sy x.t.hg x.t.rt x.t.ra x.t.cd x.t.ht x.t.ms x.sl x.lt x.lx x.ly x.lh x.lc x.le s.1 s.2.1 s.2.2.1 s.2.2.2.1 s.2.2.2.2.1 s.2.2.2.2.2 a pl sp) (usp x.t.sy s.2.2.1 x.ly (s.1 - x.lt) sp)) (z (dE x.t.id x.t.st x.t.tm x.t.x x.t.y x.t.sx x.t.sy x.t.hg x.t.rt x.t.ra x.t.cd x.t.ht x.t.ms x.sl x.lt x.lx x.ly x.lh x.lc x.le s.1 s.2.1 s.2.2.1 s.2.2.2.1 s.2.2.2.2.1 s.2.2.2.2.2 a pl sp) s.2.2.2.1) (z (dE x.t.id x.t.st x.t.tm x.t.x x.t.y x.t.sx x.t.sy x.t.hg x.t.rt x.t.ra x.t.cd x.t.ht x.t.ms x.sl x.lt x.lx x.ly x.lh x.lc x.le s.1 s.2.1 s.2.2.1 s.2.2.2.1 s.2.2.2.2.1 s.2.2.2.2.2 a pl sp) (H7 s.2.2.2.1 x.lh (s.1 - x.lt))) (z (dE x.t.id x.t.st x.t.tm x.t.x x.t.y x.t.sx x.t.sy x.t.hg x.t.rt x.t.ra x.t.cd x.t.ht x.t.ms x.sl x.lt x.lx x.ly x.lh x.lc x.le s.1 s.2.1 s.2.2.1 s.2.2.2.1 s.2.2.2.2.1 s.2.2.2.2.2 a pl sp) (Xi pl (pr x.t.ra x.sl a (s.1 - x.t.tm)) s.2.2.2.2.2)) (z (dE x.t.id x.t.st x.t.tm x.t.x x.t.y x.t.sx x.t.sy x.t.hg x.t.rt x.t.ra x.t.cd x.t.ht x.t.ms x.sl x.lt x.lx x.ly x.lh x.lc x.le s.1 s.2.1 s.2.2.1 s.2.2.2.1 s.2.2.2.2.1 s.2.2.2.2.2 a pl sp) (H5 s.2.2.2.2.1 x.t.cd)) (z (dE x.t.id x.t.st x.t.tm x.t.x x.t.y x.t.sx x.t.sy x.t.hg x.t.rt x.t.ra x.t.cd x.t.ht x.t.ms x.sl x.lt x.lx x.ly x.lh x.lc x.le s.1 s.2.1 s.2.2.1 s.2.2.2.1 s.2.2.2.2.1 s.2.2.2.2.2 a pl sp) (IntKind.wrap .i64 (x.t.ht+1))) (z (dE x.t.id x.t.st x.t.tm x.t.x x.t.y x.t.sx x.t.sy x.t.hg x.t.rt x.t.ra x.t.cd x.t.ht x.t.ms x.sl x.lt x.lx x.ly x.lh x.lc x.le s.1 s.2.1 s.2.2.1 s.2.2.2.1 s.2.2.2.2.1 s.2.2.2.2.2 a pl sp) 0)) (z (dE x.t.id x.t.st x.t.tm x.t.x x.t.y x.t.sx x.t.sy x.t.hg x.t.rt x.t.ra x.t.cd x.t.ht x.t.ms x.sl x.lt x.lx x.ly x.lh x.lc x.le s.1 s.2.1 s.2.2.1 s.2.2.2.1 s.2.2.2.2.1 s.2.2.2.2.2 a pl sp) (usl sp (ps x.sl a (s.1 - x.t.tm)) (um s.2.2.2.2.2 x.le (s.1 - x.lt) a))) (z (dE x.t.id x.t.st x.t.tm x.t.x x.t.y x.t.sx x.t.sy x.t.hg x.t.rt x.t.ra x.t.cd x.t.ht x.t.ms x.sl x.lt x.lx x.ly x.lh x.lc x.le s.1 s.2.1 s.2.2.1 s.2.2.2.1 s.2.2.2.2.1 s.2.2.2.2.2 a pl sp) s.1) (z (dE x.t.id x.t.st x.t.tm x.t.x x.t.y x.t.sx x.t.sy x.t.hg x.t.rt x.t.ra x.t.cd x.t.ht x.t.ms x.sl x.lt x.lx x.ly x.lh x.lc x.le s.1 s.2.1 s.2.2.1 s.2.2.2.1 s.2.2.2.2.1 s.2.2.2.2.2 a pl sp) s.2.1) (z (dE x.t.id x.t.st x.t.tm x.t.x x.t.y x.t.sx x.t.sy x.t.hg x.t.rt x.t.ra x.t.cd x.t.ht x.t.ms x.sl x.lt x.lx x.ly x.lh x.lc x.le s.1 s.2.1 s.2.2.1 s.2.2.2.1 s.2.2.2.2.1 s.2.2.2.2.2 a pl sp) s.2.2.1) (z (dE x.t.id x.t.st x.t.tm x.t.x x.t.y x.t.sx x.t.sy x.t.hg x.t.rt x.t.ra x.t.cd x.t.ht x.t.ms x.sl x.lt x.lx x.ly x.lh x.lc x.le s.1 s.2.1 s.2.2.1 s.2.2.2.1 s.2.2.2.2.1 s.2.2.2.2.2 a pl sp) s.2.2.2.1) (z (dE x.t.id x.t.st x.t.tm x.t.x x.t.y x.t.sx x.t.sy x.t.hg x.t.rt x.t.ra x.t.cd x.t.ht x.t.ms x.sl x.lt x.lx x.ly x.lh x.lc x.le s.1 s.2.1 s.2.2.1 s.2.2.2.1 s.2.2.2.2.1 s.2.2.2.2.2 a pl sp) s.2.2.2.2.1) (z (dE x.t.id x.t.st x.t.tm x.t.x x.t.y x.t.sx x.t.sy x.t.hg x.t.rt x.t.ra x.t.cd x.t.ht x.t.ms x.sl x.lt x.lx x.ly x.lh x.lc x.le s.1 s.2.1 s.2.2.1 s.2.2.2.1 s.2.2.2.2.1 s.2.2.2.2.2 a pl sp) s.2.2.2.2.2)
noncomputable def gO (s:Sp):cU:=cU.mk (dT.mk (0) (0) (z (spot s.1 s.2.1 s.2.2.1 s.2.2.2.1 s.2.2.2.2.1 s.2.2.2.2.2) s.1) (z (spot s.1 s.2.1 s.2.2.1 s.2.2.2.1 s.2.2.2.2.1 s.2.2.2.2.2) s.2.1) (z (spot s.1 s.2.1 s.2.2.1 s.2.2.2.1 s.2.2.2.2.1 s.2.2.2.2.2) s.2.2.1) (0) (0) (z (spot s.1 s.2.1 s.2.2.1 s.2.2.2.1 s.2.2.2.2.1 s.2.2.2.2.2) s.2.2.2.1) (0) (z (spot s.1 s.2.1 s.2.2.1 s.2.2.2.1 s.2.2.2.2.1 s.2.2.2.2.2) s.2.2.2.2.2) (z (spot s.1 s.2.1 s.2.2.1 s.2.2.2.1 s.2.2.2.2.1 s.2.2.2.2.2) s.2.2.2.2.1) (z (spot s.1 s.2.1 s.2.2.1 s.2.2.2.1 s.2.2.2.2.1 s.2.2.2.2.2) 1) (0)) (z (spot s.1 s.2.1 s.2.2.1 s.2.2.2.1 s.2.2.2.2.1 s.2.2.2.2.2) 6400) (z (spot s.1 s.2.1 s.2.2.1 s.2.2.2.1 s.2.2.2.2.1 s.2.2.2.2.2) s.1) (z (spot s.1 s.2.1 s.2.2.1 s.2.2.2.1 s.2.2.2.2.1 s.2.2.2.2.2) s.2.1) (z (spot s.1 s.2.1 s.2.2.1 s.2.2.2.1 s.2.2.2.2.1 s.2.2.2.2.2) s.2.2.1) (z (spot s.1 s.2.1 s.2.2.1 s.2.2.2.1 s.2.2.2.2.1 s.2.2.2.2.2) s.2.2.2.1) (z (spot s.1 s.2.1 s.2.2.1 s.2.2.2.1 s.2.2.2.2.1 s.2.2.2.2.2) s.2.2.2.2.1) (z (spot s.1 s.2.1 s.2.2.1 s.2.2.2.1 s.2.2.2.2.1 s.2.2.2.2.2) s.2.2.2.2.2)
end F
noncomputable def K7:aH cod:=fun args H=>match args,H with
 | [.agg cs],[]=>(match X6.ok cs with | true=>.ret (.c (.int .i64 (F.ctk (X6.dec cs))),[]) | false=>.fail)
 | _,_=>.fail
theorem JG:Sound Tryz.prog cod 91 K7:=qN.sub fun args H r hg=>by
 unfold K7 at hg;split at hg
 ·rename_i cs;split at hg
  ·rename_i tF;have e0:=X6.ck _ tF;rw [←e0];generalize X6.dec cs=z0 at hg ⊢;exact hg
  ·exact hg.elim
 ·exact hg.elim
noncomputable def R7:aQ cod:=(91,.p K7)::aaF
theorem Og:cv Tryz.prog cod R7:=.cons JG RZ
noncomputable def Wt:aH cod:=fun args H=>match args,H with
 | [.agg cs],[]=>(match ko.ok cs with | true=>.ret (.c (.int .i64 (F.G5 (ko.dec cs))),[]) | false=>.fail)
 | _,_=>.fail
theorem Qh:Sound Tryz.prog cod 53 Wt:=rh.sub fun args H r hg=>by
 unfold Wt at hg;split at hg
 ·rename_i cs;split at hg
  ·rename_i tF;have e0:=ko.ck _ tF;rw [←e0];generalize ko.dec cs=z0 at hg ⊢;exact hg
  ·exact hg.elim
 ·exact hg.elim
noncomputable def aaG:aQ cod:=(53,.p Wt)::R7
theorem Ss:cv Tryz.prog cod aaG:=.cons Qh Og
noncomputable def Ll:aH cod:=fun args H=>match args,H with
 | [.agg cs,.c (.int .i64 n),.c (.int .i64 a)],[]=>(match ko.ok cs with | true=>.ret (.aP [.agg (ko.enc (F.prd (ko.dec cs) n a)),.c (.int .i64 (F.D3 (ko.dec cs) n a))],[]) | false=>.fail)
 | _,_=>.fail
theorem KE:Sound Tryz.prog cod 24 Ll:=pn.sub fun args H r hg=>by
 unfold Ll at hg;split at hg
 ·rename_i cs n a;split at hg
  ·rename_i tF;have e0:=ko.ck _ tF;rw [←e0];generalize ko.dec cs=z0 at hg ⊢;exact hg
  ·exact hg.elim
 ·exact hg.elim
noncomputable def Sx:aQ cod:=(24,.p Ll)::aaG
theorem Oj:cv Tryz.prog cod Sx:=.cons KE Ss
noncomputable def Lc:aH cod:=fun args H=>match args,H with
 | [.agg cs],[]=>(match ko.ok cs with | true=>.ret (.aP [.agg (ko.enc (F.YS (ko.dec cs))),.c (.int .i64 (F.G5 (ko.dec cs)))],[]) | false=>.fail)
 | _,_=>.fail
theorem J6:Sound Tryz.prog cod 28 Lc:=BA.sub fun args H r hg=>by
 unfold Lc at hg;split at hg
 ·rename_i cs;split at hg
  ·rename_i tF;have e0:=ko.ck _ tF;rw [←e0];generalize ko.dec cs=z0 at hg ⊢;exact hg
  ·exact hg.elim
 ·exact hg.elim
noncomputable def Si:aQ cod:=(28,.p Lc)::Sx
theorem Oh:cv Tryz.prog cod Si:=.cons J6 Oj
noncomputable def Li:aH cod:=fun args H=>match args,H with
 | [.agg cs,.c (.int .i64 n)],[]=>(match ko.ok cs with | true=>.ret (.aP [.agg (ko.enc (F.Vo (ko.dec cs) n)),.c (.bool (F.DQ (ko.dec cs) n)),.c (.int .i64 (F.Au (ko.dec cs) n))],[]) | false=>.fail)
 | _,_=>.fail
theorem Ky:Sound Tryz.prog cod 29 Li:=yA.sub fun args H r hg=>by
 unfold Li at hg;split at hg
 ·rename_i cs n;split at hg
  ·rename_i tF;have e0:=ko.ck _ tF;rw [←e0];generalize ko.dec cs=z0 at hg ⊢;exact hg
  ·exact hg.elim
 ·exact hg.elim
noncomputable def Sr:aQ cod:=(29,.p Li)::Si
theorem Oi:cv Tryz.prog cod Sr:=.cons Ky Oh
noncomputable def Lx:aH cod:=fun args H=>match args,H with
 | [.agg cs,.agg ds,.c (.int .i64 a),.c (.int .i64 pl),.c (.int .i64 sp)],[]=>(match ko.ok cs with | true=>(match c6.ok ds with | true=>.ret (.aP [.agg (ko.enc (F.upd (ko.dec cs) (c6.dec ds) a pl sp)),.c (.int .i64 (F.upE (ko.dec cs) (c6.dec ds) a pl sp))],[]) | false=>.fail) | false=>.fail)
 | _,_=>.fail
theorem MB:Sound Tryz.prog cod 27 Lx:=r8.sub fun args H r hg=>by
 unfold Lx at hg;split at hg
 ·rename_i cs ds a pl sp;split at hg
  ·rename_i tF;have e0:=ko.ck _ tF;rw [←e0];generalize ko.dec cs=z0 at hg ⊢;split at hg
   ·rename_i ahZ;have e1:=c6.ck _ ahZ;rw [←e1];generalize c6.dec ds=z1 at hg ⊢;exact hg
   ·exact hg.elim
  ·exact hg.elim
 ·exact hg.elim
noncomputable def SG:aQ cod:=(27,.p Lx)::Sr
theorem Oo:cv Tryz.prog cod SG:=.cons MB Oi
noncomputable def KX:aH cod:=fun args H=>match args,H with
 | [.agg ds],[]=>(match c6.ok ds with | true=>.ret (.aP [.agg (ko.enc (F.gO (c6.dec ds))),.c (.int .i64 (F.RD (c6.dec ds)))],[]) | false=>.fail)
 | _,_=>.fail
theorem Jl:Sound Tryz.prog cod 30 KX:=uF.sub fun args H r hg=>by
 unfold KX at hg;split at hg
 ·rename_i ds;split at hg
  ·rename_i tF;have e0:=c6.ck _ tF;rw [←e0];generalize c6.dec ds=z0 at hg ⊢;exact hg
  ·exact hg.elim
 ·exact hg.elim
noncomputable def IE:aQ cod:=(30,.p KX)::SG
noncomputable def Ir:aT cod:=c9 IE
theorem sR:cv Tryz.prog cod IE:=.cons Jl Oo
namespace F
noncomputable def OA (b c x y:Int):Int:=if b=x∧c=y then 0 else qF (x - b) (y - c)
noncomputable def rsX (b az r:Int):Int:=b+vX az r
noncomputable def rsY (c az r:Int):Int:=c+vY az r
noncomputable def pp (a b c d e f az r:Int):Int:=if cP (rsX b az r) (rsY c az r) then (if 1000000 < err a b c d e f r then 8 else 0) else 8
end F
theorem abI (b c x y:Int):0≤F.OA b c x y∧F.OA b c x y < 4096:=by
 unfold F.OA;split
 ·omega
 ·exact SU _ _
theorem Qt {a b c d e f:Int} (h:F.qa a b c d e f=0):(0≤a∧a≤255)∧(0≤b∧b≤200000)∧(0≤c∧c≤2000000)∧(0≤d∧d≤4095)∧(0≤e∧e≤60000)∧(-1≤f∧f≤4095):=by
 unfold F.qa F.de at h;split at h
 ·simp only [Bool.and_eq_true,decide_eq_true_eq] at*;omega
 ·cases h
theorem aba {n:Int} (h: -32768000000≤n∧n≤32768000000): -40000000000≤F.nr n∧F.nr n≤40000000000:=by
 have key:∀m:Int,0≤m→m≤32768000000→0≤(m+8192).tdiv 16384∧(m+8192).tdiv 16384≤40000000000:=fun m h1 h2=>by
  have b1:0≤(m+8192).tdiv 16384:=Int.tdiv_nonneg (by omega) (by decide);have b2:(m+8192).tdiv 16384≤m+8192:=Int.tdiv_le_self _ (by omega);omega
 unfold F.nr;split
 ·have:=key (-n) (by omega) (by omega);omega
 ·have:=key n (by omega) (by omega);omega
theorem adK {h l:Int} (hl:0≤l∧l≤2000000):(-40000000000≤F.vX h l∧F.vX h l≤40000000000)∧(-40000000000≤F.vY h l∧F.vY h l≤40000000000):=
 ⟨aba (si hl (l7 h)),aba (si hl (oa h))⟩
noncomputable def xL:bA:=[]
theorem VY (a b c d e f:Int) (t x y h k g:Int):aI Ir xL Tryz.f18.results.toList 0 400 [.code (aj Tryz.f18)] ⟨ay Tryz.f18 [.agg [.int .i64 a,.int .i64 b,.int .i64 c,.int .i64 d,.int .i64 e,.int .i64 f],.agg [.int .i64 t,.int .i64 x,.int .i64 y,.int .i64 h,.int .i64 k,.int .i64 g]],([]:Heap cod)⟩=
 cond (!decide (F.iD a b c d e f=0)) (
 .ret (.fin (.aP [.agg [.int .i64 0,.int .i64 0,.int .i64 0,.int .i64 0,.int .i64 0,.int .i64 0],.c (.int .i64 (F.iD a b c d e f))]) [])) (
 cond (!decide (F.spot t x y h k g=0)) (
  .ret (.fin (.aP [.agg [.int .i64 0,.int .i64 0,.int .i64 0,.int .i64 0,.int .i64 0,.int .i64 0],.c (.int .i64 (F.spot t x y h k g))]) [])) (
  .aa ((F.b9 b∧(F.b9 c∧(F.b9 x∧F.b9 y)))) (
  cond (!(F.de d 0 8000000&&decide (F.iw b c x y≤d*d))) (
   .ret (.fin (.aP [.agg [.int .i64 0,.int .i64 0,.int .i64 0,.int .i64 0,.int .i64 0,.int .i64 0],.c (.int .i64 8)]) [])) (
   .aa (((((-1000000:Int)≤b∧b≤1000000)∧((-1000000:Int)≤c∧c≤1000000))∧(((-1000000:Int)≤x∧x≤1000000)∧((-1000000:Int)≤y∧y≤1000000)))) (
   cond (!(decide (b=x)&&decide (c=y))) (
    .aa ((ae (x - b)∧ae (y - c))) (
    .aa (((((-2000000:Int)≤x - b∧x - b≤2000000)∧((-2000000:Int)≤y - c∧y - c≤2000000))∧¬(x - b=0∧y - c=0))) (
    .ret (.fin (.aP [.agg [.int .i64 a,.int .i64 t,.int .i64 (F.root (F.iw b c x y)),.int .i64 (F.qF (x - b) (y - c)),.int .i64 h,.int .i64 k],.c (.int .i64 0)]) [])))) (
    .ret (.fin (.aP [.agg [.int .i64 a,.int .i64 t,.int .i64 (F.root (F.iw b c x y)),.int .i64 0,.int .i64 h,.int .i64 k],.c (.int .i64 0)]) []))))))):=by kernel_rfl
theorem QI (a b c d e f:Int) (t x y h k g:Int) (b0:aC) (hb:b0.n=0) (h0:F.iD a b c d e f=0) (h1:F.spot t x y h k g=0) (h2:F.iw b c x y≤d*d):Sym.af Tryz.prog b0 [.code (aj Tryz.f18)] ⟨ay Tryz.f18 [.agg [.int .i64 a,.int .i64 b,.int .i64 c,.int .i64 d,.int .i64 e,.int .i64 f],.agg [.int .i64 t,.int .i64 x,.int .i64 y,.int .i64 h,.int .i64 k,.int .i64 g]],([]:Heap cod)⟩ (Sym.Ends Tryz.prog Tryz.f18 0 (.aP [.agg [.int .i64 a,.int .i64 t,.int .i64 (F.root (F.iw b c x y)),.int .i64 (F.OA b c x y),.int .i64 h,.int .i64 k],.c (.int .i64 0)]) []):=by
 refine af.go (cfg:=Ir) sR mixed xL 400 hb (VY a b c d e f t x y h k g) ?_;obtain ⟨s1,s2,s3,s4,s5,s6⟩:=uf.1 h0;obtain ⟨p1,p2,p3,p4,p5,p6⟩:=lz h1;simp only [T.wp,T.wp_cond,bF];refine ap (by rw [h0];decide) (ap (by rw [h1];decide) ⟨⟨by unfold F.b9;omega,by unfold F.b9;omega,by unfold F.b9;omega,by unfold F.b9;omega⟩,ap ?_ ⟨⟨⟨s2,s3⟩,p2,p3⟩,?_⟩⟩)
 ·have e1:F.de d 0 8000000=true:=bN.2 (by omega);rw [e1,decide_eq_true h2];decide
 ·by_cases c1:b=x
  ·by_cases c2:c=y
   ·have ez:F.OA b c x y=0:=by unfold F.OA;rw [if_pos ⟨c1,c2⟩]
    rw [ez];exact ap (by rw [decide_eq_true c1,decide_eq_true c2];decide) ⟨rfl,trivial⟩
   ·have ez:F.OA b c x y=F.qF (x - b) (y - c):=by unfold F.OA;rw [if_neg (fun q=>c2 q.2)]
    rw [ez];exact aq (by rw [decide_eq_false c2,Bool.and_false];decide) ⟨⟨by unfold ae;omega,by unfold ae;omega⟩,⟨⟨by omega,by omega⟩,by omega⟩,rfl,trivial⟩
  ·have ez:F.OA b c x y=F.qF (x - b) (y - c):=by unfold F.OA;rw [if_neg (fun q=>c1 q.1)]
   rw [ez];exact aq (by rw [decide_eq_false c1,Bool.false_and];decide) ⟨⟨by unfold ae;omega,by unfold ae;omega⟩,⟨⟨by omega,by omega⟩,by omega⟩,rfl,trivial⟩
noncomputable def EA:aH cod:=fun args H=>match args,H with
 | [.agg [.int .i64 a,.int .i64 b,.int .i64 c,.int .i64 d,.int .i64 e,.int .i64 f],.agg [.int .i64 t,.int .i64 x,.int .i64 y,.int .i64 h,.int .i64 k,.int .i64 g]],[]=>.aa ((F.iD a b c d e f=0)∧(F.spot t x y h k g=0)∧(F.iw b c x y≤d*d)) (.ret (.aP [.agg [.int .i64 a,.int .i64 t,.int .i64 (F.root (F.iw b c x y)),.int .i64 (F.OA b c x y),.int .i64 h,.int .i64 k],.c (.int .i64 0)],[]))
 | _,_=>.fail
theorem u7:Sound Tryz.prog cod 18 EA:=ax (cfg:=Ir) sR mixed Tryz.func18 rfl rfl _ fun args H r news hg b0 hb=>by
 unfold EA at hg;split at hg
 ·skip
  simp only [T.ah,T.wp,Prod.mk.injEq] at hg;obtain ⟨⟨q0,q1,q2⟩,rfl,rfl⟩:=hg;exact QI _ _ _ _ _ _ _ _ _ _ _ _ b0 hb (by assumption) (by assumption) (by assumption)
 ·exact hg.elim
noncomputable def CO:aQ cod:=(18,.p EA)::IE
noncomputable def Ct:aT cod:=c9 CO
theorem pJ:cv Tryz.prog cod CO:=.cons u7 sR
noncomputable def xM:bA:=[]
theorem VZ (a b c d e f:Int) (q t r az h k:Int):aI Ct xM Tryz.f46.results.toList 0 400 [.code (aj Tryz.f46)] ⟨ay Tryz.f46 [.agg [.int .i64 a,.int .i64 b,.int .i64 c,.int .i64 d,.int .i64 e,.int .i64 f],.agg [.int .i64 q,.int .i64 t,.int .i64 r,.int .i64 az,.int .i64 h,.int .i64 k]],([]:Heap cod)⟩=
 cond (!decide (F.iD a b c d e f=0)) (
 .ret (.fin (.aP [.agg [.int .i64 0,.int .i64 0,.int .i64 0,.int .i64 0,.int .i64 0,.int .i64 0],.c (.int .i64 (F.iD a b c d e f))]) [])) (
 cond (!decide (F.qa q t r az h k=0)) (
  .ret (.fin (.aP [.agg [.int .i64 0,.int .i64 0,.int .i64 0,.int .i64 0,.int .i64 0,.int .i64 0],.c (.int .i64 (F.qa q t r az h k))]) [])) (
  cond (!decide (q=a)) (
   .ret (.fin (.aP [.agg [.int .i64 0,.int .i64 0,.int .i64 0,.int .i64 0,.int .i64 0,.int .i64 0],.c (.int .i64 1)]) [])) (
   .aa (((0:Int)≤r∧r≤2000000)) (
   .aa ((ae (b+F.vX az r)∧ae (c+F.vY az r))) (
   cond (!decide (F.pt (b+F.vX az r) (c+F.vY az r)=0)) (
    .ret (.fin (.aP [.agg [.int .i64 0,.int .i64 0,.int .i64 0,.int .i64 0,.int .i64 0,.int .i64 0],.c (.int .i64 8)]) [])) (
    cond (decide (1000000 < F.err a b c d e f r)) (
     .ret (.fin (.aP [.agg [.int .i64 0,.int .i64 0,.int .i64 0,.int .i64 0,.int .i64 0,.int .i64 0],.c (.int .i64 8)]) [])) (
     .ret (.fin (.aP [.agg [.int .i64 t,.int .i64 (b+F.vX az r),.int .i64 (c+F.vY az r),.int .i64 h,.int .i64 k,.int .i64 (F.err a b c d e f r)],.c (.int .i64 0)]) [])))))))):=by kernel_rfl
theorem QJ (a b c d e f:Int) (q t r az h k:Int) (b0:aC) (hb:b0.n=0) (h0:F.iD a b c d e f=0) (h1:F.qa q t r az h k=0) (h2:q=a):Sym.af Tryz.prog b0 [.code (aj Tryz.f46)] ⟨ay Tryz.f46 [.agg [.int .i64 a,.int .i64 b,.int .i64 c,.int .i64 d,.int .i64 e,.int .i64 f],.agg [.int .i64 q,.int .i64 t,.int .i64 r,.int .i64 az,.int .i64 h,.int .i64 k]],([]:Heap cod)⟩ (Sym.Ends Tryz.prog Tryz.f46 0 (.aP [.agg [.int .i64 (F.z (F.pp a b c d e f az r) t),.int .i64 (F.z (F.pp a b c d e f az r) (F.rsX b az r)),.int .i64 (F.z (F.pp a b c d e f az r) (F.rsY c az r)),.int .i64 (F.z (F.pp a b c d e f az r) h),.int .i64 (F.z (F.pp a b c d e f az r) k),.int .i64 (F.z (F.pp a b c d e f az r) (F.err a b c d e f r))],.c (.int .i64 (F.pp a b c d e f az r))]) []):=by
 refine af.go (cfg:=Ct) pJ mixed xM 400 hb (VZ a b c d e f q t r az h k) ?_;obtain ⟨s1,s2,s3,s4,s5,s6⟩:=uf.1 h0;obtain ⟨p1,p2,p3,p4,p5,p6⟩:=Qt h1;obtain ⟨v1,v2⟩:=adK (h:=az) (l:=r) p3;simp only [T.wp,T.wp_cond,bF];refine ap (by rw [h0];decide) (ap (by rw [h1];decide) (ap (by rw [decide_eq_true h2];decide) ⟨p3,⟨by unfold ae;omega,by unfold ae;omega⟩,?_⟩));have ep:F.pt (b+F.vX az r) (c+F.vY az r)=if F.cP (F.rsX b az r) (F.rsY c az r) then 0 else 4:=rfl
 cases hp:F.cP (F.rsX b az r) (F.rsY c az r) with
 | false=>
   have eE:F.pp a b c d e f az r=8:=by unfold F.pp;rw [hp];rfl
   rw [hp,if_neg (by decide)] at ep;rw [eE,ep]
   exact aq (by decide) ⟨rfl,trivial⟩
 | true=>
   rw [hp,if_pos rfl] at ep;rw [ep];refine ap (by decide) ?_;by_cases c1:1000000 < F.err a b c d e f r
   ·have eE:F.pp a b c d e f az r=8:=by unfold F.pp;rw [hp,if_pos rfl,if_pos c1]
    rw [eE];exact aq (decide_eq_true c1) ⟨rfl,trivial⟩
   ·have eE:F.pp a b c d e f az r=0:=by unfold F.pp;rw [hp,if_pos rfl,if_neg c1]
    rw [eE];exact ap (by rw [decide_eq_false c1];decide) ⟨rfl,trivial⟩
noncomputable def EB:aH cod:=fun args H=>match args,H with
 | [.agg [.int .i64 a,.int .i64 b,.int .i64 c,.int .i64 d,.int .i64 e,.int .i64 f],.agg [.int .i64 q,.int .i64 t,.int .i64 r,.int .i64 az,.int .i64 h,.int .i64 k]],[]=>.aa ((F.iD a b c d e f=0)∧(F.qa q t r az h k=0)∧(q=a)) (.ret (.aP [.agg [.int .i64 (F.z (F.pp a b c d e f az r) t),.int .i64 (F.z (F.pp a b c d e f az r) (F.rsX b az r)),.int .i64 (F.z (F.pp a b c d e f az r) (F.rsY c az r)),.int .i64 (F.z (F.pp a b c d e f az r) h),.int .i64 (F.z (F.pp a b c d e f az r) k),.int .i64 (F.z (F.pp a b c d e f az r) (F.err a b c d e f r))],.c (.int .i64 (F.pp a b c d e f az r))],[]))
 | _,_=>.fail
theorem u9:Sound Tryz.prog cod 46 EB:=ax (cfg:=Ct) pJ mixed Tryz.func46 rfl rfl _ fun args H r news hg b0 hb=>by
 unfold EB at hg;split at hg
 ·skip
  simp only [T.ah,T.wp,Prod.mk.injEq] at hg;obtain ⟨⟨q0,q1,q2⟩,rfl,rfl⟩:=hg;exact QJ _ _ _ _ _ _ _ _ _ _ _ _ b0 hb (by assumption) (by assumption) (by assumption)
 ·exact hg.elim
noncomputable def MN:aQ cod:=(46,.p EB)::CO
theorem I0:cv Tryz.prog cod MN:=.cons u9 pJ
end
end
end Go.Proofs.YtcjagpfbhnmggaaGreatDoor
