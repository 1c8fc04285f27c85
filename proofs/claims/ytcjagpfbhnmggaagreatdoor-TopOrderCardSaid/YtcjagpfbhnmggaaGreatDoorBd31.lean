/- Parts of the proof. -/
import Derived.Test.YtcjagpfbhnmggaaGreatDoorBd30
namespace Go.Proofs.YtcjagpfbhnmggaaGreatDoor
section
namespace F
def gN (l:List Int) (k:Nat):Nat:=(l.getD k 0).toNat
def gI (l:List Int) (k:Nat):Int:=l.getD k 0
def gB (l:List Bool) (k:Nat):Bool:=l.getD k false
def BB:Int:=36028797018963968
theorem jI (l:List Int) (i:Nat) (a:Int) (k:Nat) (h:i < l.length):gI (l.set i a) k=if k=i then a else gI l k:=by
 unfold gI;rw [List.getD_eq_getElem?_getD,List.getD_eq_getElem?_getD,List.getElem?_set];by_cases e:i=k
 ·subst e;simp [h]
 ·rw [if_neg e,if_neg fun q=>e q.symm]
theorem yd (l:List Int) (i:Nat) (a:Int) (k:Nat) (h:i < l.length):gN (l.set i a) k=if k=i then a.toNat else gN l k:=by
 show (gI (l.set i a) k).toNat=_;rw [jI l i a k h];split<;>rfl
theorem Du (l:List Bool) (i:Nat) (a:Bool) (k:Nat) (h:i < l.length):gB (l.set i a) k=if k=i then a else gB l k:=by
 unfold gB;rw [List.getD_eq_getElem?_getD,List.getD_eq_getElem?_getD,List.getElem?_set];by_cases e:i=k
 ·subst e;simp [h]
 ·rw [if_neg e,if_neg fun q=>e q.symm]
theorem T8 {l:List Bool} {k:Nat} (h:gB l k=true):k < l.length:=by
 refine Nat.lt_of_not_le fun c=>?_;unfold gB at h;rw [List.getD_eq_getElem?_getD,List.getElem?_eq_none c] at h;cases h
def free:List Bool→Nat
 | []=>0
 | b::t=>(if b=true then 0 else 1)+free t
theorem Gf:∀(l:List Bool) (a:Nat),a < l.length→gB l a=false→free (l.set a true)+1=free l
 | [],a,h,_=>by cases h
 | b::t,0,_,h=>by
   have hb:b=false:=h;subst hb;show (if true=true then 0 else 1)+free t+1=(if false=true then 0 else 1)+free t;simp
   omega
 | b::t,a+1,h,hb=>by
   have:=Gf t a (by simpa using h) hb;show (if b=true then 0 else 1)+free (t.set a true)+1=(if b=true then 0 else 1)+free t;omega
structure iN (n m:Nat) (C:Nat→Nat→Int) (t:Nat) (u v row bE low:List Int) (used:List Bool) (a:Nat) (rk:Nat→Nat) (N:Nat):Prop where
 T:Tree n m C BB (t*BB) (t+1) (gI u) (gI v) (gN row) (gN bE) (gI low) (gB used) a rk N
 lu:u.length=n+1
 lv:v.length=m+1
 lr:row.length=m+1
 lw:bE.length=m+1
 ll:low.length=m+1
 ls:used.length=m+1
 rp:∀k,0≤gI row k
 wp:∀k,0≤gI bE k
structure Sc (m:Nat) (c:Nat→Int) (used:List Bool) (a:Nat) (low bE:List Int) (k:Nat) (cz dr:List Int) (delta:Int) (next:Nat):Prop where
 ll:cz.length=m+1
 lw:dr.length=m+1
 don:∀j,1≤j→j < k→gB used j=false→gI cz j=min (gI low j) (c j)∧gI dr j=if c j < gI low j then (a:Int) else gI bE j
 rest:∀j,(k≤j∨gB used j=true∨j=0)→gI cz j=gI low j∧gI dr j=gI bE j
 dl:(delta=1152921504606846976∧next=0∧∀j,1≤j→j < k→gB used j=false→1152921504606846976≤gI cz j)∨(1≤next∧next < k∧gB used next=false∧delta=gI cz next∧∀j,1≤j→j < k→gB used j=false→delta≤gI cz j)
theorem Sc.start {m:Nat} {c:Nat→Int} {used:List Bool} {a:Nat} {low bE:List Int} (h1:low.length=m+1) (h2:bE.length=m+1):Sc m c used a low bE 1 low bE 1152921504606846976 0:=
 ⟨h1,h2,fun j j1 j2=>by omega,fun _ _=>⟨rfl,rfl⟩,.inl ⟨rfl,rfl,fun j j1 j2=>by omega⟩⟩
theorem Sc.skip {m:Nat} {c:Nat→Int} {used:List Bool} {a:Nat} {low bE:List Int} {k:Nat} {cz dr:List Int} {delta:Int} {next:Nat} (S:Sc m c used a low bE k cz dr delta next) (hk:gB used k=true):Sc m c used a low bE (k+1) cz dr delta next:=by
 have ne:∀j,gB used j=false→j≠k:=fun j hj e=>by rw [e,hk] at hj;cases hj
 refine ⟨S.ll,S.lw,fun j j1 j2 hj=>S.don j j1 (by have:=ne j hj;omega) hj,fun j hj=>S.rest j (hj.imp_left fun h=>by omega),?_⟩;rcases S.dl with ⟨d1,d2,d3⟩ | ⟨d1,d2,d3,d4,d5⟩
 ·exact .inl ⟨d1,d2,fun j j1 j2 hj=>d3 j j1 (by have:=ne j hj;omega) hj⟩
 ·exact .inr ⟨d1,by omega,d3,d4,fun j j1 j2 hj=>d5 j j1 (by have:=ne j hj;omega) hj⟩
theorem Sc.put {m:Nat} {c:Nat→Int} {used:List Bool} {a:Nat} {low bE:List Int} {k:Nat} {cz dr:List Int} {delta:Int} {next:Nat} (S:Sc m c used a low bE k cz dr delta next) (hk:gB used k=false) (k1:1≤k) (k2:k≤m) {low2 way2:List Int}
 (hl:(c k < gI cz k∧low2=cz.set k (c k)∧way2=dr.set k (a:Int))∨(¬c k < gI cz k∧low2=cz∧way2=dr)):
 (gI low2 k < delta→Sc m c used a low bE (k+1) low2 way2 (gI low2 k) k)∧(¬gI low2 k < delta→Sc m c used a low bE (k+1) low2 way2 delta next):=by
 have r:=S.rest k (.inl (Nat.le_refl _))
 have hL:low2.length=m+1∧way2.length=m+1:=by
  rcases hl with ⟨_,h2,h3⟩ | ⟨_,h2,h3⟩<;>rw [h2,h3]
  ·rw [List.length_set,List.length_set];exact ⟨S.ll,S.lw⟩
  ·exact ⟨S.ll,S.lw⟩
 have bP:∀j,j≠k→gI low2 j=gI cz j∧gI way2 j=gI dr j:=fun j hj=>by
  rcases hl with ⟨_,h2,h3⟩ | ⟨_,h2,h3⟩<;>rw [h2,h3]
  ·rw [jI _ _ _ _ (by rw [S.ll];omega),jI _ _ _ _ (by rw [S.lw];omega),if_neg hj,if_neg hj];exact ⟨rfl,rfl⟩
  ·exact ⟨rfl,rfl⟩
 have hat:gI low2 k=min (gI low k) (c k)∧gI way2 k=if c k < gI low k then (a:Int) else gI bE k:=by
  rcases hl with ⟨h1,h2,h3⟩ | ⟨h1,h2,h3⟩<;>rw [h2,h3]
  ·rw [jI _ _ _ _ (by rw [S.ll];omega),jI _ _ _ _ (by rw [S.lw];omega),if_pos rfl,if_pos rfl,if_pos (by rw [←r.1];exact h1)];rw [r.1] at h1;exact ⟨by omega,rfl⟩
  ·rw [r.1] at h1;rw [r.1,r.2,if_neg h1];exact ⟨by omega,rfl⟩
 have aeH:∀j,1≤j→j < k+1→gB used j=false→gI low2 j=min (gI low j) (c j)∧gI way2 j=if c j < gI low j then (a:Int) else gI bE j:=fun j j1 j2 hj=>by
  by_cases e:j=k
  ·subst e;exact hat
  ·rw [(bP j e).1,(bP j e).2];exact S.don j j1 (by omega) hj
 have Gp:∀j,(k+1≤j∨gB used j=true∨j=0)→gI low2 j=gI low j∧gI way2 j=gI bE j:=fun j hj=>by
  have e:j≠k:=fun e=>by
   rcases hj with h | h | h
   ·omega
   ·rw [e,hk] at h;cases h
   ·omega
  rw [(bP j e).1,(bP j e).2];exact S.rest j (hj.imp_left fun h=>by omega)
 have lt:∀j,1≤j→j < k+1→j=k∨(j≠k∧j < k):=fun j _ _=>by omega
 refine ⟨fun h=>⟨hL.1,hL.2,aeH,Gp,.inr ⟨k1,by omega,hk,rfl,fun j j1 j2 hj=>?_⟩⟩,fun h=>⟨hL.1,hL.2,aeH,Gp,?_⟩⟩
 ·rcases lt j j1 j2 with e | ⟨e,e2⟩
  ·rw [e];omega
  ·rw [(bP j e).1];rcases S.dl with ⟨d1,d2,d3⟩ | ⟨d1,d2,d3,d4,d5⟩
   ·have:=d3 j j1 e2 hj;omega
   ·have:=d5 j j1 e2 hj;omega
 ·rcases S.dl with ⟨d1,d2,d3⟩ | ⟨d1,d2,d3,d4,d5⟩
  ·refine .inl ⟨d1,d2,fun j j1 j2 hj=>?_⟩;rcases lt j j1 j2 with e | ⟨e,e2⟩
   ·rw [e];omega
   ·rw [(bP j e).1];exact d3 j j1 e2 hj
  ·refine .inr ⟨d1,by omega,d3,by rw [(bP next (by omega)).1];exact d4,fun j j1 j2 hj=>?_⟩;rcases lt j j1 j2 with e | ⟨e,e2⟩
   ·rw [e];omega
   ·rw [(bP j e).1];exact d5 j j1 e2 hj
structure Up (used:List Bool) (row u v low:List Int) (delta:Int) (k:Nat) (u1 v1 cz:List Int):Prop where
 lu:u1.length=u.length
 lv:v1.length=v.length
 ll:cz.length=low.length
 DE:∀j,j < k→gB used j=true→gI u1 (gN row j)=gI u (gN row j)+delta
 Gr:∀x,(∀j,j < k→gB used j=true→gN row j≠x)→gI u1 x=gI u x
 hv:∀j,gI v1 j=if j < k∧gB used j=true then gI v j - delta else gI v j
 hl:∀j,gI cz j=if j < k∧gB used j=false then gI low j - delta else gI low j
theorem Up.start (used:List Bool) (row u v low:List Int) (delta:Int):Up used row u v low delta 0 u v low:=
 ⟨rfl,rfl,rfl,fun j h=>by omega,fun _ _=>rfl,fun j=>by rw [if_neg (by omega)],fun j=>by rw [if_neg (by omega)]⟩
theorem Up.yes {used:List Bool} {row u v low:List Int} {delta:Int} {k:Nat} {u1 v1 cz:List Int} (U:Up used row u v low delta k u1 v1 cz) (hk:gB used k=true) (aeN:∀j,j < k→gB used j=true→gN row j≠gN row k) (h1:gN row k < u.length) (h2:k < v.length):
 gI u1 (gN row k)=gI u (gN row k)∧gI v1 k=gI v k∧Up used row u v low delta (k+1) (u1.set (gN row k) (gI u1 (gN row k)+delta)) (v1.set k (gI v1 k - delta)) cz:=by
 have e1:gI u1 (gN row k)=gI u (gN row k):=U.Gr _ aeN;have e2:gI v1 k=gI v k:=by rw [U.hv k,if_neg (by omega)]
 refine ⟨e1,e2,by rw [List.length_set];exact U.lu,by rw [List.length_set];exact U.lv,U.ll,fun j j1 hj=>?_,fun x hx=>?_,fun j=>?_,fun j=>?_⟩
 ·rw [jI _ _ _ _ (by rw [U.lu];exact h1)];by_cases e:j=k
  ·subst e;rw [if_pos rfl,e1]
  ·rw [if_neg (aeN j (by omega) hj)];exact U.DE j (by omega) hj
 ·rw [jI _ _ _ _ (by rw [U.lu];exact h1),if_neg fun e=>hx k (by omega) hk e.symm];exact U.Gr x fun j hj hu=>hx j (by omega) hu
 ·rw [jI _ _ _ _ (by rw [U.lv];exact h2)];by_cases e:j=k
  ·subst e;rw [if_pos rfl,if_pos ⟨by omega,hk⟩,e2]
  ·rw [if_neg e,U.hv j];by_cases c:j < k∧gB used j=true
   ·rw [if_pos c,if_pos ⟨by omega,c.2⟩]
   ·rw [if_neg c,if_neg fun q=>c ⟨by omega,q.2⟩]
 ·rw [U.hl j];by_cases c:j < k∧gB used j=false
  ·rw [if_pos c,if_pos ⟨by omega,c.2⟩]
  ·rw [if_neg c,if_neg fun q=>by
    by_cases e:j=k
    ·rw [e,hk] at q;cases q.2
    ·exact c ⟨by omega,q.2⟩]
theorem Up.no {used:List Bool} {row u v low:List Int} {delta:Int} {k:Nat} {u1 v1 cz:List Int} (U:Up used row u v low delta k u1 v1 cz) (hk:gB used k=false) (h2:k < low.length):
 gI cz k=gI low k∧Up used row u v low delta (k+1) u1 v1 (cz.set k (gI cz k - delta)):=by
 have e2:gI cz k=gI low k:=by rw [U.hl k,if_neg (by omega)]
 have ne:∀j,gB used j=true→j≠k:=fun j hj e=>by rw [e,hk] at hj;cases hj
 refine ⟨e2,U.lu,U.lv,by rw [List.length_set];exact U.ll,fun j j1 hj=>U.DE j (by have:=ne j hj;omega) hj,fun x hx=>U.Gr x fun j hj hu=>hx j (by omega) hu,fun j=>?_,fun j=>?_⟩
 ·rw [U.hv j];by_cases c:j < k∧gB used j=true
  ·rw [if_pos c,if_pos ⟨by omega,c.2⟩]
  ·rw [if_neg c,if_neg fun q=>c ⟨by have:=ne j q.2;omega,q.2⟩]
 ·rw [jI _ _ _ _ (by rw [U.ll];exact h2)];by_cases e:j=k
  ·subst e;rw [if_pos rfl,if_pos ⟨by omega,hk⟩,e2]
  ·rw [if_neg e,U.hl j];by_cases c:j < k∧gB used j=false
   ·rw [if_pos c,if_pos ⟨by omega,c.2⟩]
   ·rw [if_neg c,if_neg fun q=>c ⟨by omega,q.2⟩]
theorem iN.bd {n m:Nat} {C:Nat→Nat→Int} {t:Nat} {u v row bE low:List Int} {used:List Bool} {a:Nat} {rk:Nat→Nat} {N:Nat} (S:iN n m C t u v row bE low used a rk N) (hn:n≤m) (hn5:n≤20)
 (hC:∀x k,1≤x→x≤n→1≤k→k≤m→0≤C x k∧C x k≤BB):t < n∧(t:Int)*BB≤684547143360315392∧0≤(t:Int)*BB∧(∀x,0≤gI u x∧gI u x≤720575940379279360)∧(∀k,-720575940379279360≤gI v k∧gI v k≤0)∧(∀k,0≤gI low k∧gI low k≤1152921504606846976):=by
 have hi:=S.T.hi;obtain ⟨f,f1,f2,f3⟩:=yb hn S.T.hi S.T.kx S.T.inj;have h1:=S.T.F9 (t+1) f hi.1 hi.2 f1 f2;have h2:=S.T.vz f f1 f2 f3;have h3:=hC (t+1) f hi.1 hi.2 f1 f2;have hB:BB=36028797018963968:=rfl;have ht:(t:Int)*BB≤19*BB:=Int.mul_le_mul_of_nonneg_right (by omega) (by rw [hB];omega);have Uy:0≤(t:Int)*BB:=Int.mul_nonneg (by omega) (by rw [hB];omega);rw [hB] at ht Uy h3;refine ⟨by omega,by rw [hB];omega,by rw [hB];omega,fun x=>?_,fun k=>?_,S.T.lob⟩
 ·have:=S.T.ub x;rw [hB] at this;omega
 ·have:=S.T.vb k;rw [hB] at this;omega
theorem iN.step {n m:Nat} {C:Nat→Nat→Int} {t:Nat} {u v row bE low:List Int} {used:List Bool} {a:Nat} {rk:Nat→Nat} {N:Nat} (S:iN n m C t u v row bE low used a rk N) (hn:n≤m) (hn5:n≤20)
 (hC:∀x k,1≤x→x≤n→1≤k→k≤m→0≤C x k∧C x k≤BB) (DD:gN row a≠0) {cz dr:List Int} {delta:Int} {next:Nat}
 (hS:Sc m (fun k=>C (gN row a) k - gI u (gN row a) - gI v k) (used.set a true) a low bE (m+1) cz dr delta next) {u1 v1 low2:List Int} (hU:Up (used.set a true) row u v cz delta (m+1) u1 v1 low2):
 next≤m∧∃QE N',iN n m C t u1 v1 row dr low2 (used.set a true) next QE N':=by
 have hb:=S.bd hn hn5 hC;have ha:=S.T.am
 have vW:∀k,gB (used.set a true) k=true↔(gB used k=true∨k=a):=fun k=>by
  rw [Du _ _ _ _ (by rw [S.ls];omega)];by_cases e:k=a
  ·simp [e]
  ·simp [e]
 have Oc:∀k,gB (used.set a true) k=true→k < m+1:=fun k hk=>by
  have:=T8 hk;rw [List.length_set,S.ls] at this;exact this
 have key:=S.T.step hn (by unfold BB;have:=hb.2.1;unfold BB at this;omega) hb.2.2.1 hC DD vW (tN:=gI cz) (vK:=gN dr) (delta:=delta) (next:=next)
  (fun k k1 k2 hk=>(hS.don k k1 (by omega) hk).1)
  (fun k hk=>by
    have:=hS.rest k (by rcases hk with h | h | h;exact .inr (.inl h);exact .inl (by omega);exact .inr (.inr h));exact ⟨this.1,by show (gI dr k).toNat=(gI bE k).toNat;rw [this.2]⟩)
  (fun k k1 k2 hk=>by
    have:=(hS.don k k1 (by omega) hk).2;show (gI dr k).toNat=if _ then a else (gI bE k).toNat
    rw [this];split<;>simp)
  (by
    rcases hS.dl with ⟨d1,d2,d3⟩ | ⟨d1,d2,d3,d4,d5⟩
    ·exact .inl ⟨d1,d2,fun k k1 k2=>d3 k k1 (by omega)⟩
    ·exact .inr ⟨d1,by omega,d3,d4,fun k k1 k2=>d5 k k1 (by omega)⟩)
  (u':=gI u1) (v':=gI v1) (low2:=gI low2)
  (fun k hk=>hU.DE k (Oc k hk) hk) (fun x hx=>hU.Gr x fun j _ hj=>hx j hj)
  (fun k=>by
    rw [hU.hv k];by_cases c:gB (used.set a true) k=true
    ·rw [if_pos ⟨Oc k c,c⟩,if_pos c]
    ·rw [if_neg fun q=>c q.2,if_neg c])
  (fun k k1 hk=>by rw [hU.hl k,if_pos ⟨by omega,hk⟩])
  (fun k hk=>by rw [hU.hl k,if_neg fun q=>by rcases hk with h | h;omega;rw [h] at q;cases q.2])
 obtain ⟨_,g2,_,_,_,g6⟩:=key;refine ⟨g2,_,_,g6,by rw [hU.lu,S.lu],by rw [hU.lv,S.lv],S.lr,hS.lw,by rw [hU.ll,hS.ll],by rw [List.length_set,S.ls],S.rp,fun k=>?_⟩;by_cases hk:1≤k∧k < m+1∧gB (used.set a true) k=false
 ·rw [(hS.don k hk.1 hk.2.1 hk.2.2).2];split
  ·omega
  ·exact S.wp k
 ·rw [(hS.rest k (by
   by_cases h1:m+1≤k
   ·exact .inl h1
   ·by_cases h2:k=0
    ·exact .inr (.inr h2)
    ·refine .inr (.inl ?_)
     cases h3:gB (used.set a true) k with
     | true=>rfl
     | false=>exact absurd ⟨by omega,by omega,h3⟩ hk)).2]
  exact S.wp k
theorem iN.adu {n m:Nat} {C:Nat→Nat→Int} {t:Nat} {u v row bE low:List Int} {used:List Bool} {a:Nat} {rk:Nat→Nat} {N:Nat} (S:iN n m C t u v row bE low used a rk N) (DD:gN row a≠0):
 (∀k,gB (used.set a true) k=true→k≤m∧1≤gN row k∧gN row k≤n)∧∀k j,gB (used.set a true) k=true→gB (used.set a true) j=true→gN row j=gN row k→j=k:=by
 have ha:=S.T.am;have hi:=S.T.hi
 have h1:∀k,gB (used.set a true) k=true→k≤m∧gN row k≠0:=fun k hk=>by
  rw [Du _ _ _ _ (by rw [S.ls];omega)] at hk;by_cases e:k=a
  ·rw [e];exact ⟨ha,DD⟩
  ·rw [if_neg e] at hk;exact S.T.us k hk
 have h2:∀k,gB (used.set a true) k=true→k≤m∧1≤gN row k∧gN row k≤n:=fun k hk=>by
  have a1:=h1 k hk;by_cases e:k=0
  ·have:=S.T.mC;rw [e];rw [e] at a1;omega
  ·have:=S.T.kx k (by omega) a1.1;omega
 refine ⟨h2,fun k j hk hj e=>?_⟩;have a1:=h1 k hk;have a2:=h1 j hj;by_cases k0:k=0
 ·by_cases j0:j=0
  ·omega
  ·have:=S.T.kx j (by omega) a2.1;rw [k0,S.T.mC] at e;omega
 ·by_cases j0:j=0
  ·have:=S.T.kx k (by omega) a1.1;rw [j0,S.T.mC] at e;omega
  ·exact S.T.inj j k (by omega) a2.1 (by omega) a1.1 e (by omega)
structure vu (n m:Nat) (C:Nat→Nat→Int) (t:Nat) (u v row bE:List Int):Prop where
 O:xk n m C BB t (gI u) (gI v) (gN row)
 lu:u.length=n+1
 lv:v.length=m+1
 lr:row.length=m+1
 lw:bE.length=m+1
 rp:∀k,0≤gI row k
 wp:∀k,0≤gI bE k
theorem J1 (n:Nat) (a:Int) (k:Nat):gI (List.replicate n a) k=if k < n then a else 0:=by
 unfold gI;rw [List.getD_eq_getElem?_getD,List.getElem?_replicate];split<;>rfl
theorem vu.start {n m:Nat} {C:Nat→Nat→Int} (hC:∀x k,1≤x→x≤n→1≤k→k≤m→0≤C x k∧C x k≤BB):vu n m C 0 (List.replicate (n+1) 0) (List.replicate (m+1) 0) (List.replicate (m+1) 0) (List.replicate (m+1) 0):=by
 have z:∀N k,gI (List.replicate N 0) k=0:=fun N k=>by rw [J1];split<;>rfl
 exact ⟨xk.start hC (fun x=>z _ x) (fun x=>z _ x) (fun x=>by show (gI _ x).toNat=0;rw [z];rfl),by simp,by simp,by simp,by simp,fun k=>by rw [z];omega,fun k=>by rw [z];omega⟩
theorem vu.tree {n m:Nat} {C:Nat→Nat→Int} {t:Nat} {u v row bE:List Int} (O:vu n m C t u v row bE) (ht:t < n) {low:List Int} (hl:low=List.replicate (m+1) 1152921504606846976):
 ∃rk N,iN n m C t u v (row.set 0 ((t+1:Nat):Int)) bE low (List.replicate (m+1) false) 0 rk N:=by
 subst hl;have h0:0 < row.length:=by rw [O.lr];omega
 refine ⟨_,_,O.O.tree ht (by rw [yd _ _ _ _ h0,if_pos rfl];simp) (fun k hk=>by rw [yd _ _ _ _ h0,if_neg hk]) (fun k hk=>by rw [J1,if_pos (by omega)]) (fun k=>by rw [J1];split<;>omega) (fun k=>by
  cases h:gB (List.replicate (m+1) false) k with
  | false=>rfl
  | true=>
    exfalso;have hk:=T8 h;unfold gB at h;rw [List.getD_eq_getElem?_getD,List.getElem?_replicate,if_pos (by simpa using hk)] at h;cases h),O.lu,O.lv,by rw [List.length_set,O.lr],O.lw,by simp,by simp,fun k=>?_,O.wp⟩
 rw [jI _ _ _ _ h0];split
 ·omega
 ·exact O.rp k
structure Il (n m:Nat) (C:Nat→Nat→Int) (t:Nat) (u v row bE low:List Int) (used:List Bool) (a0:Nat) (rk:Nat→Nat) (N:Nat) (r:List Int) (a:Nat):Prop where
 S:iN n m C t u v row bE low used a0 rk N
 A:Aug n m C (t+1) (gI u) (gI v) (gN row) (gB used) rk (gN r) a
 lr:r.length=m+1
 rp:∀k,0≤gI r k
 ha:gB used a=true∨a=a0
theorem iN.aug {n m:Nat} {C:Nat→Nat→Int} {t:Nat} {u v row bE low:List Int} {used:List Bool} {a:Nat} {rk:Nat→Nat} {N:Nat} (S:iN n m C t u v row bE low used a rk N) (DD:gN row a=0):Il n m C t u v row bE low used a rk N row a:=
 ⟨S,S.T.aug DD,S.lr,S.rp,.inr rfl⟩
theorem Il.step {n m:Nat} {C:Nat→Nat→Int} {t:Nat} {u v row bE low:List Int} {used:List Bool} {a0:Nat} {rk:Nat→Nat} {N:Nat} {r:List Int} {a:Nat} (A:Il n m C t u v row bE low used a0 rk N r a) (h0:a≠0):
 a≤m∧gN bE a≤m∧rk (gN bE a) < rk a∧Il n m C t u v row bE low used a0 rk N (r.set a (gI r (gN bE a))) (gN bE a):=by
 have ha:=A.A.am;have hl:a < r.length:=by rw [A.lr];omega
 obtain ⟨g1,g2,g3,_,g5⟩:=A.A.step A.S.T A.ha h0 (r':=gN (r.set a (gI r (gN bE a)))) (by rw [yd _ _ _ _ hl,if_pos rfl];rfl) (fun k hk=>by rw [yd _ _ _ _ hl,if_neg hk]);refine ⟨ha,g2,g3,A.S,g5,by rw [List.length_set];exact A.lr,fun k=>?_,.inl g1⟩;rw [jI _ _ _ _ hl];split
 ·exact A.rp _
 ·exact A.rp k
theorem Il.fin {n m:Nat} {C:Nat→Nat→Int} {t:Nat} {u v row bE low:List Int} {used:List Bool} {a0:Nat} {rk:Nat→Nat} {N:Nat} {r:List Int} (A:Il n m C t u v row bE low used a0 rk N r 0) (hn:n≤m) (hC:∀x k,1≤x→x≤n→1≤k→k≤m→0≤C x k∧C x k≤BB):
 vu n m C (t+1) u v r bE:=
 ⟨A.A.fin A.S.T hn hC,A.S.lu,A.S.lv,A.lr,A.S.lw,A.rp,A.S.wp⟩
end F
end
namespace Sym
open Go.RowKit
section
variable {cod:Nat→aO}
def rI (ops:Array Oper):List Nat→Array Bool→Bool
 | [],listed=>(Region.ready .any ops listed).isEmpty
 | i::l,listed=>(Region.ready .any ops listed).contains i&&Region.free .any ops listed i&&rI ops l (listed.setIfInBounds i true)
def yH (cfg:aT cod) (ops:Array Oper) (I Q:St cod→Prop):List Nat→Array Bool→St cod→Prop
 | [],_,st=>I st∧Q st
 | i::l,listed,st=>I st∧∃oi,ops[i]? =some oi∧(∀j oj,ops[j]? =some oj→j≠i→listed.getD j true=false→(oi.apart ops oj=true→∀st s1 s2,I st→aZ cfg ops oi st s1→aZ cfg ops oj s1 s2→∃t1,aZ cfg ops oj st t1∧aZ cfg ops oi t1 s2∧(I s2→I t1))∨(oO ops i (j+1)).getD j false=true)∧
    ∃s,aZ cfg ops oi st s∧yH cfg ops I Q l (listed.setIfInBounds i true) s
theorem xl {cfg:aT cod} {ops:Array Oper} {I Q:St cod→Prop}:∀(l:List Nat) (listed:Array Bool) (st:St cod),pv ops listed→rI ops l listed=true→yH cfg ops I Q l listed st→mS cfg ops I Q l.length listed st
 | [],listed,st,_,hB,h=>⟨h.1,by simpa [rI] using hB,h.2⟩
 | i::l,listed,st,J5,hB,h=>by
   simp only [rI,Bool.and_eq_true] at hB;obtain ⟨⟨hr,hf⟩,hB'⟩:=hB;obtain ⟨hI,oi,h0,hm,s,h1,h2⟩:=h;have EY:i∈Region.ready .any ops listed:=by simpa using hr
   exact qD h0 l.length listed st s J5 (Region.free_spec h0 hf) hm EY hI h1 (xl l _ s (pT J5 EY) hB' h2)
theorem KK {cfg:aT cod} (hS:kB cfg) (z7:∀d,cfg.place d=none) (hm:cfg.P.follows .mixedOrders=true) {id:Nat} {ops:Array Oper} {st bg:St cod} {w0:aC} {w:World} {a:Act} {Q:Exit→Act→World→Prop} {I:St cod→Prop} (ord:List Nat)
 (hl:ord.length=ops.size) (ho:rI ops ord (Array.replicate ops.size false)=true) (h:yH cfg ops I (fun s=>s=bg) ord (Array.replicate ops.size false) st) (hR:Rel st w0 a w) (hQ:∀a' w',Rel bg w0 a' w'→Q .normal a' w'):(Code.region id ops true).wp cfg.P Q a w:=by
 have Pr:=xl ord _ st (fun j o _ hl=>by simp [Array.getElem?_replicate] at hl;split at hl<;>simp_all) ho h;rw [hl] at Pr;exact wp_region_any hm (jd hS (I:=I) (Q:=fun s=>s=bg) (fun s _=>⟨Fb.none z7 _ _,fun k ⟨⟨d,hd⟩,_⟩=>by rw [z7 d] at hd;cases hd⟩) (fun s a' w' hs nv=>by subst hs;exact hQ a' w' nv) _ _ st a _ Pr (yN hR))
theorem af.ord {cfg:aT cod} (hS:eL cfg) (hm:cfg.P.follows .mixedOrders=true) {b0:aC} {id:Nat} {ops:Array Oper} {k:List Item} {st bg:St cod} {Q:St cod→Prop} (I:St cod→Prop) (ord:List Nat)
 (hl:ord.length=ops.size) (ho:rI ops ord (Array.replicate ops.size false)=true) (h:yH cfg ops I (fun s=>s=bg) ord (Array.replicate ops.size false) st) (hr:af cfg.P b0 k bg Q):af cfg.P b0 (.code (.region id ops true)::k) st Q:=by
 intro b cs a w hR;have hw:=KK (id:=id) (Q:=fun e a' w'=>e= .normal∧Rel bg b0 a' w') hS.ok hS.2.2 hm ord hl ho h hR (fun a' w' nv=>⟨rfl,nv⟩);obtain ⟨e,a',w',⟨rfl,nv⟩,Dy⟩:=hw b k cs;obtain ⟨s,XO,RG,todo,q1,q2,q3⟩:=hr b cs a' w' nv;exact ⟨s,XO,RG,todo,q1,q2,Steps.trans Dy q3⟩
def lT (cfg:aT cod):List Oper→St cod→T (St cod)
 | [],st=>.ret st
 | o::l,st=>(mv cfg o st).bind fun s=>lT cfg l s
theorem GI {cfg:aT cod} {ops:Array Oper}:∀(l:List Oper) (st bg:St cod),(∀o∈l,o.guard=none)→(lT cfg l st).ah bg→gx cfg ops l st bg
 | [],_,_,_,h=>h.symm
 | o::l,st,bg,hg,h=>by
   unfold lT at h;rw [T.aw] at h;obtain ⟨s,h1,h2⟩:=h;refine ⟨s,?_,GI l s bg (fun o ho=>hg o (List.mem_cons_of_mem _ ho)) h2⟩;unfold aZ;rw [hg o (List.mem_cons_self ..)];exact h1
def ib (cfg:aT cod):SV→Prop
 | .c (.fn g _)=>jY cfg.P g=false∧(cfg.lB g).isSome=true∧cfg.quiet g=true
 | _=>True
theorem Ms {cfg:aT cod} {ops:Array Oper} {oi oj:Oper} {st s1 s2:St cod} (h1:aZ cfg ops oi st s1) (h2:aZ cfg ops oj s1 s2) (vV:oi.apart ops oj=true)
 (q1:∀out:Out cod,qn cfg ops oi st out→out.H=st.heap∧out.kill=[]) (q2:∀out:Out cod,qn cfg ops oj s1 out→out.H=s1.heap∧out.kill=[]):
 ∃t1,aZ cfg ops oj st t1∧aZ cfg ops oi t1 s2:=by
 obtain ⟨a1,a2,a3⟩:=Oper.apart_spec vV;obtain ⟨rF,e1,rfl⟩:=cX.1 h1;obtain ⟨tP,e2,rfl⟩:=cX.1 h2;obtain ⟨g1,g2⟩:=q1 rF e1;obtain ⟨g3,g4⟩:=q2 tP e2;rw [bW g2] at e2 g3 ⊢;simp only at g3;rw [g1] at e2 g3;have e3:qn cfg ops oj st tP:=(jg (cfg:=cfg) (st:=st) (d:=oi.dst) (v:=rF.v) rfl a1).1 e2;refine ⟨_,cX.2 ⟨tP,e3,rfl⟩,cX.2 ⟨rF,?_,?_⟩⟩
 ·rw [bW g4,g3];exact (jg (cfg:=cfg) (st:=st) (d:=oj.dst) (v:=tP.v) rfl a3).2 e1
 ·rw [bW g4,bW g4,bW g2];simp only [g1,g3];congr 1
  cases hdi:oi.dst with
  | none=>cases hdj:oj.dst<;>rfl
  | some di=>
    cases hdj:oj.dst with
    | none=>rfl
    | some dj=>exact List.set_comm _ _ (fun e=>a2 di hdi (by rw [hdj,e]))
def Gx (d:Nat) (o:Oper):Bool:=match o.op with
 | .call {callee:=.value (.tmp x),.. }=>decide (x=d)
 | _=>false
theorem tw {cfg:aT cod} {ops:Array Oper} {o:Oper} {s:St cod} {d:Nat} (z7:∀d,cfg.place d=none) (hg:o.guard=none) (hk:(decide (ca cfg o≤1)||Gx d o)=true) (hq:ib cfg (cD s.tmps (.tmp d))) {out:Out cod} (e:qn cfg ops o s out):out.H=s.heap∧out.kill=[]:=by
 have hno:o.dst.bind cfg.place=none:=by cases o.dst<;>simp [z7]
 rw [Bool.or_eq_true,decide_eq_true_eq] at hk;rcases hk with hk | hk
 ·obtain ⟨k1,k2,k3,_⟩:=rf e;refine ⟨?_,k1 (by omega)⟩;rcases Nat.lt_or_ge (ca cfg o) 1 with c | c
  ·exact (k2 (by omega)).1
  ·exact (k3 (by omega)).1
 ·unfold Gx at hk;split at hk
  ·rename_i x args Oz ho;simp only [decide_eq_true_eq] at hk;subst hk;unfold qn at e;rw [hg] at e;simp only at e;rw [dQ (.inr hno)] at e;unfold iB at e;simp only [ho] at e;split at e
   ·rename_i g dC hv;rw [hv] at hq;obtain ⟨x1,x2,x3⟩:=hq;rw [if_neg (by rw [x1];decide)] at e;obtain ⟨h1,_,h3⟩:=lM x2 e;exact ⟨(h3 x3).1,h1⟩
   ·exact e.elim
  ·cases hk
theorem af.aiq {cfg:aT cod} (hS:eL cfg) (hm:cfg.P.follows .mixedOrders=true) {b0:aC} {id:Nat} {ops:Array Oper} {L k:List Item} (hL:L= .code (.region id ops true)::k) {st:St cod} {Q:St cod→Prop} (d0 d:Nat)
 (hB:Region.lexB .any ops=true)
 (hk:(ops.toList.all fun o=>decide (ca cfg o≤1)||Gx d o)=true)
 (hd:(ops.toList.all fun o=>(decide (o.dst≠some d0)&&decide (o.dst≠some d))||(decide (o.dst=some d)&&match o.op with | .move (.tmp x)=>decide (x=d0) | _=>false))=true)
 (hg:(ops.toList.all fun o=>o.guard.isNone)=true)
 (h0:ib cfg (cD st.tmps (.tmp d0))) (h1:ib cfg (cD st.tmps (.tmp d))) {t:T (St cod)} (ht:Sym.lT cfg ops.toList st=t) (hr:t.wp fun s=>af cfg.P b0 k s Q):af cfg.P b0 L st Q:=by
 subst hL;subst ht;obtain ⟨sE,hsE,hr⟩:=T.jP hr;have gn:∀o∈ops.toList,o.guard=none:=fun o ho=>by simpa using List.all_eq_true.1 hg o ho
 have h:gx cfg ops ops.toList st sE:=GI ops.toList st sE gn hsE
 have oo:∀{j:Nat} {o:Oper},ops[j]? =some o→o∈ops.toList:=fun h=>by
  rw [←Array.getElem?_toList] at h;exact List.mem_of_getElem? h
 let I:St cod→Prop:=fun s=>ib cfg (cD s.tmps (.tmp d0))∧ib cfg (cD s.tmps (.tmp d))
 have hI0:I st:=⟨h0,h1⟩
 have hJ:∀o∈ops.toList,∀s s',I s→aZ cfg ops o s s'→I s':=fun o ho s s' hs Gq=>by
  obtain ⟨out,e,rfl⟩:=cX.1 Gq;obtain ⟨e1,e2⟩:=tw hS.2.2 (gn o ho) (List.all_eq_true.1 hk o ho) hs.2 e;have hdo:=List.all_eq_true.1 hd o ho;rw [Bool.or_eq_true,Bool.and_eq_true,Bool.and_eq_true,decide_eq_true_eq,decide_eq_true_eq,decide_eq_true_eq] at hdo
  have bG:∀x:Nat,o.dst≠some x→cD (s.put o.dst out).tmps (.tmp x)=cD s.tmps (.tmp x):=fun x hx=>by
   rw [bW e2]
   cases YR:o.dst with
   | none=>rfl
   | some y=>
     have bP:y≠x:=fun q=>hx (by rw [YR,q]);show (s.tmps.set y out.v).getD x _=s.tmps.getD x _;rw [List.getD,List.getD,List.getElem?_set_ne bP]
  rcases hdo with ⟨n1,n2⟩ | ⟨n1,n2⟩
  ·exact ⟨(congrArg (ib cfg) (bG d0 n1)).mpr hs.1,(congrArg (ib cfg) (bG d n2)).mpr hs.2⟩
  ·have hv:out.v=cD s.tmps (.tmp d0):=by
    split at n2
    ·rename_i x jS;simp only [decide_eq_true_eq] at n2;subst n2;unfold qn at e;rw [gn o ho] at e;simp only at e;rw [dQ (.inr (by cases o.dst<;>simp [hS.2.2]))] at e;unfold iB at e;simp only [jS] at e;rw [←e]
    ·cases n2
   have put:ib cfg (cD (s.tmps.set d out.v) (.tmp d)):=by
    show ib cfg ((s.tmps.set d out.v).getD d _);rw [List.getD];rcases Nat.lt_or_ge d s.tmps.length with c | c
    ·rw [List.getElem?_set_self c];show ib cfg out.v;rw [hv];exact hs.1
    ·rw [List.getElem?_eq_none (by rw [List.length_set];exact c)];trivial
   rw [bW e2,n1];refine ⟨?_,put⟩;by_cases c:d0=d
   ·rw [c];exact put
   ·show ib cfg ((s.tmps.set d out.v).getD d0 _);rw [List.getD,List.getElem?_set_ne (fun q=>c q.symm)];exact hs.1
 have cW:=yQ (I:=fun _=>True) (J:=I) hJ (fun o ho=>ho) (tU h) hI0
 have Pr:=jv (Q:=fun s=>s=sE) (fun i j oi oj Nk hi hj=>.inl fun vV s s1 s2 hI k1 k2=>by
  obtain ⟨t1,q1,q2⟩:=Ms k1 k2 vV
   (fun out e=>tw hS.2.2 (gn oi (oo hi)) (List.all_eq_true.1 hk oi (oo hi)) hI.2.2 e)
   (fun out e=>tw hS.2.2 (gn oj (oo hj)) (List.all_eq_true.1 hk oj (oo hj)) (hJ oi (oo hi) s s1 hI.2 k1).2 e)
  exact ⟨t1,q1,q2,fun _=>⟨trivial,hJ oj (oo hj) s t1 hI.2 q1⟩⟩) ops.toList 0 (Array.replicate ops.size false) st sE (by simp) (fun j o _ hl=>by simp [Array.getElem?_replicate] at hl;split at hl<;>simp_all) (fun j hj=>by omega) (by
   simp only [Region.lexB,Bool.and_eq_true] at hB;simpa using hB.2) cW rfl
 intro b cs a w hR;have hw:(Code.region id ops true).wp cfg.P (fun e a' w'=>e= .normal∧Rel sE b0 a' w') a w:=wp_region_any hm (jd hS.ok (Q:=fun s=>s=sE) (fun s _=>⟨Fb.none hS.2.2 _ _,fun k ⟨⟨d,hd⟩,_⟩=>by rw [hS.2.2 d] at hd;cases hd⟩) (fun s a' w' hs nv=>by subst hs;exact ⟨rfl,nv⟩) _ _ st a _ (by simpa using Pr) (yN hR));obtain ⟨e,a',w',⟨rfl,nv⟩,Dy⟩:=hw b k cs;obtain ⟨s,XO,RG,todo,q1,q2,q3⟩:=hr b cs a' w' nv;exact ⟨s,XO,RG,todo,q1,q2,Steps.trans Dy q3⟩
theorem af.aip {cfg:aT cod} (hS:eL cfg) (hm:cfg.P.follows .mixedOrders=true) (cuts:bA) {b0:aC} {fn:Func} {r:SV} {news:Heap cod} (g:Nat) {N:Nat} (hb:b0.n=N) {id:Nat} {ops:Array Oper} {L k:List Item} (hL:L= .code (.region id ops true)::k) {st:St cod} (d0 d:Nat)
 (hB:Region.lexB .any ops=true)
 (hk:(ops.toList.all fun o=>decide (ca cfg o≤1)||Gx d o)=true)
 (hd:(ops.toList.all fun o=>(decide (o.dst≠some d0)&&decide (o.dst≠some d))||(decide (o.dst=some d)&&match o.op with | .move (.tmp x)=>decide (x=d0) | _=>false))=true)
 (hg:(ops.toList.all fun o=>o.guard.isNone)=true)
 (h0:ib cfg (cD st.tmps (.tmp d0))) (h1:ib cfg (cD st.tmps (.tmp d))) {t:T (Fin cod)} (ht:((Sym.lT cfg ops.toList st).bind fun s=>aI cfg cuts fn.results.toList N g k s)=t)
 (h:t.wp (bF cfg.P b0 (Ends cfg.P fn N r news) r news)):af cfg.P b0 L st (Ends cfg.P fn N r news):=by
 subst ht;refine af.aiq hS hm hL d0 d hB hk hd hg h0 h1 rfl ?_;rw [T.wp_bind] at h;exact T.wp_mono (fun s hs=>af.go hS hm cuts g hb rfl hs) h
end
end Sym
end Go.Proofs.YtcjagpfbhnmggaaGreatDoor
