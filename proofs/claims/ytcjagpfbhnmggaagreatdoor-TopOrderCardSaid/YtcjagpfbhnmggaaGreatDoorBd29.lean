/- Parts of the proof. -/
import Derived.Test.YtcjagpfbhnmggaaGreatDoorRows
namespace Go.Proofs.YtcjagpfbhnmggaaGreatDoor
section
namespace F
def bT (f:Nat→Int):Nat→Int
 | 0=>0
 | n+1=>bT f n+f (n+1)
theorem cT {f g:Nat→Int}:∀n,(∀k,1≤k→k≤n→f k=g k)→bT f n=bT g n
 | 0,_=>rfl
 | n+1,h=>by unfold bT;rw [cT n (fun k h1 h2=>h k h1 (by omega)),h (n+1) (by omega) (by omega)]
theorem rW {f g:Nat→Int}:∀n,(∀k,1≤k→k≤n→f k≤g k)→bT f n≤bT g n
 | 0,_=>Int.le_refl _
 | n+1,h=>by
   unfold bT;have a:=rW n (fun k h1 h2=>h k h1 (by omega));have b:=h (n+1) (by omega) (by omega);omega
theorem rV (f g:Nat→Int):∀n,bT (fun k=>f k+g k) n=bT f n+bT g n
 | 0=>rfl
 | n+1=>by unfold bT;rw [rV f g n];omega
theorem oK:∀n,bT (fun _=>0) n=0
 | 0=>rfl
 | n+1=>by unfold bT;rw [oK n];rfl
theorem lA (g:Nat→Nat→Int) (m:Nat):∀n,bT (fun x=>bT (fun k=>g x k) m) n=bT (fun k=>bT (fun x=>g x k) n) m
 | 0=>by
   show (0:Int)=bT (fun _=>0) m
   rw [oK]
 | n+1=>by
   show bT (fun x=>bT (fun k=>g x k) m) n+bT (fun k=>g (n+1) k) m=_;rw [lA g m n,←rV];rfl
theorem oJ {f:Nat→Int} (n:Nat) (h:∀k,1≤k→k≤n→f k=0):bT f n=0:=by
 rw [cT n h,oK]
theorem dV {f:Nat→Int} {a:Nat}:∀n,1≤a→a≤n→(∀k,1≤k→k≤n→k≠a→f k=0)→bT f n=f a
 | 0,h1,h2,_=>by omega
 | n+1,h1,h2,h=>by
   unfold bT;by_cases e:a=n+1
   ·subst e;rw [oJ n (fun k q1 q2=>h k q1 (by omega) (by omega))];omega
   ·rw [dV n h1 (by omega) (fun k q1 q2 q3=>h k q1 (by omega) q3),h (n+1) (by omega) (by omega) (fun q=>e q.symm)];omega
theorem zN (c:Int) (f:Nat→Int):∀n,bT (fun k=>f k*c) n=bT f n*c
 | 0=>by show (0:Int)=0*c;rw [Int.zero_mul]
 | n+1=>by unfold bT;rw [zN c f n,Int.add_mul]
theorem Um (s:Nat→Nat) (k:Nat):∀n,(∀x y,1≤x→x≤n→1≤y→y≤n→s x=s y→x=y)→0≤bT (fun x=>if s x=k then (1:Int) else 0) n∧bT (fun x=>if s x=k then (1:Int) else 0) n≤1
 | n,h=>by
   by_cases c:∃a,1≤a∧a≤n∧s a=k
   ·obtain ⟨a,a1,a2,a3⟩:=c;rw [dV n a1 a2 (fun x x1 x2 x3=>if_neg fun e=>x3 (h x a x1 x2 a1 a2 (by rw [e,a3]))),if_pos a3];omega
   ·rw [oJ n (fun x x1 x2=>if_neg fun e=>c ⟨x,x1,x2,e⟩)];omega
structure Inv (n m:Nat) (C:Nat→Nat→Int) (t:Nat) (u v:Nat→Int) (row:Nat→Nat):Prop where
 F9:∀x k,1≤x→x≤n→1≤k→k≤m→u x+v k≤C x k
 tight:∀k,1≤k→k≤m→row k≠0→u (row k)+v k=C (row k) k
 aiH:∀k,1≤k→k≤m→v k≤0
 vz:∀k,1≤k→k≤m→row k=0→v k=0
 kx:∀k,1≤k→k≤m→row k≤t
 inj:∀k j,1≤k→k≤m→1≤j→j≤m→row k=row j→row k≠0→k=j
 Ua:∀x,1≤x→x≤t→∃k,1≤k∧k≤m∧row k=x
theorem Y7 {n m:Nat} {C:Nat→Nat→Int} {u v:Nat→Int} {row:Nat→Nat} (I:Inv n m C n u v row):
 bT (fun k=>if row k=0 then 0 else C (row k) k) m=bT u n+bT v m:=by
 have h1:bT (fun k=>if row k=0 then 0 else C (row k) k) m=bT (fun k=>(if row k=0 then 0 else u (row k))+v k) m:=by
  refine cT m fun k k1 k2=>?_;by_cases e:row k=0
  ·rw [if_pos e,if_pos e,I.vz k k1 k2 e];rfl
  ·rw [if_neg e,if_neg e,I.tight k k1 k2 e]
 have h2:bT (fun k=>if row k=0 then 0 else u (row k)) m=bT u n:=by
  have e1:bT (fun k=>if row k=0 then 0 else u (row k)) m=bT (fun k=>bT (fun x=>if row k=x then u x else 0) n) m:=by
   refine cT m fun k k1 k2=>?_;by_cases e:row k=0
   ·rw [if_pos e,oJ n (fun x x1 x2=>if_neg (by omega))]
   ·have hb:=I.kx k k1 k2;rw [if_neg e,dV n (a:=row k) (by omega) hb (fun x x1 x2 x3=>if_neg (fun q=>x3 q.symm)),if_pos rfl]
  rw [e1,lA (fun k x=>if row k=x then u x else 0) n m];refine cT n fun x x1 x2=>?_;obtain ⟨k,k1,k2,k3⟩:=I.Ua x x1 x2;rw [dV m k1 k2 (fun j j1 j2 j3=>if_neg (fun q=>j3 (I.inj j k j1 j2 k1 k2 (by rw [q,k3]) (by omega)))),if_pos k3]
 rw [h1,rV,h2]
theorem PB {n m:Nat} {C:Nat→Nat→Int} {u v:Nat→Int} {row:Nat→Nat} (I:Inv n m C n u v row) (s:Nat→Nat) (hs:∀x,1≤x→x≤n→1≤s x∧s x≤m) (hi:∀x y,1≤x→x≤n→1≤y→y≤n→s x=s y→x=y):
 bT (fun k=>if row k=0 then 0 else C (row k) k) m≤bT (fun x=>C x (s x)) n:=by
 rw [Y7 I];have h1:bT (fun x=>u x+v (s x)) n≤bT (fun x=>C x (s x)) n:=rW n fun x x1 x2=>I.F9 x (s x) x1 x2 (hs x x1 x2).1 (hs x x1 x2).2;rw [rV] at h1
 have h2:bT v m≤bT (fun x=>v (s x)) n:=by
  have e1:bT (fun x=>v (s x)) n=bT (fun x=>bT (fun k=>if s x=k then v k else 0) m) n:=by
   refine cT n fun x x1 x2=>?_;rw [dV m (hs x x1 x2).1 (hs x x1 x2).2 (fun k k1 k2 k3=>if_neg (fun q=>k3 q.symm)),if_pos rfl]
  rw [e1,lA];refine rW m fun k k1 k2=>?_
  have e2:bT (fun x=>if s x=k then v k else 0) n=bT (fun x=>if s x=k then (1:Int) else 0) n*v k:=by
   rw [←zN];refine cT n fun x _ _=>?_;by_cases q:s x=k
   ·rw [if_pos q,if_pos q,Int.one_mul]
   ·rw [if_neg q,if_neg q,Int.zero_mul]
  rw [e2];have hc:=Um s k n hi;have hv:=I.aiH k k1 k2;generalize bT (fun x=>if s x=k then (1:Int) else 0) n=c at*;have kU:c=0∨c=1:=by omega
  rcases kU with e | e<;>rw [e]<;>omega
 omega
theorem UK {n m:Nat} {C:Nat→Nat→Int} {u v:Nat→Int} {row:Nat→Nat} (I:Inv n m C n u v row):
 ∃s:Nat→Nat,(∀x,1≤x→x≤n→1≤s x∧s x≤m)∧(∀x y,1≤x→x≤n→1≤y→y≤n→s x=s y→x=y)∧bT (fun k=>if row k=0 then 0 else C (row k) k) m=bT (fun x=>C x (s x)) n:=by
 have Gk:∀x,∃k,(1≤x→x≤n→1≤k∧k≤m∧row k=x):=fun x=>by
  by_cases h:1≤x∧x≤n
  ·obtain ⟨k,k1,k2,k3⟩:=I.Ua x h.1 h.2;exact ⟨k,fun _ _=>⟨k1,k2,k3⟩⟩
  ·exact ⟨0,fun a b=>absurd ⟨a,b⟩ h⟩
 let s:Nat→Nat:=fun x=>Classical.choose (Gk x)
 have hs:∀x,1≤x→x≤n→1≤s x∧s x≤m∧row (s x)=x:=fun x x1 x2=>Classical.choose_spec (Gk x) x1 x2;refine ⟨s,fun x x1 x2=>⟨(hs x x1 x2).1,(hs x x1 x2).2.1⟩,fun x y x1 x2 y1 y2 e=>?_,?_⟩
 ·rw [←(hs x x1 x2).2.2,←(hs y y1 y2).2.2,e]
 ·have e1:bT (fun k=>if row k=0 then 0 else C (row k) k) m=bT (fun k=>bT (fun x=>if row k=x then C x k else 0) n) m:=by
   refine cT m fun k k1 k2=>?_;by_cases e:row k=0
   ·rw [if_pos e,oJ n (fun x x1 x2=>if_neg (by omega))]
   ·have hb:=I.kx k k1 k2;rw [if_neg e,dV n (a:=row k) (by omega) hb (fun x x1 x2 x3=>if_neg (fun q=>x3 q.symm)),if_pos rfl]
  rw [e1,lA (fun k x=>if row k=x then C x k else 0) n m];refine cT n fun x x1 x2=>?_;obtain ⟨k1,k2,k3⟩:=hs x x1 x2;rw [dV m k1 k2 (fun j j1 j2 j3=>if_neg (fun q=>j3 (I.inj j (s x) j1 j2 k1 k2 (by rw [q,k3]) (by omega)))),if_pos k3]
end F
namespace F
structure Tree (n m:Nat) (C:Nat→Nat→Int) (B K:Int) (i:Nat) (u v:Nat→Int) (row bE:Nat→Nat) (low:Nat→Int) (used:Nat→Bool) (a:Nat) (rk:Nat→Nat) (N:Nat):Prop where
 F9:∀x k,1≤x→x≤n→1≤k→k≤m→u x+v k≤C x k
 tight:∀k,1≤k→k≤m→row k≠0→u (row k)+v k=C (row k) k
 vz:∀k,1≤k→k≤m→row k=0→v k=0
 kx:∀k,1≤k→k≤m→row k < i
 inj:∀k j,1≤k→k≤m→1≤j→j≤m→row k=row j→row k≠0→k=j
 Ua:∀x,1≤x→x < i→∃k,1≤k∧k≤m∧row k=x
 hi:1≤i∧i≤n
 mC:row 0=i
 am:a≤m
 au:used a=false
 us:∀k,used k=true→k≤m∧row k≠0
 z:used 0=true∨a=0
 wy:∀k,(used k=true∨k=a)→k≠0→used (bE k)=true∧rk (bE k) < rk k∧u (row (bE k))+v k=C (row (bE k)) k
 rkN:∀k,(used k=true∨k=a)→rk k < N
 lo:∀k,1≤k→k≤m→used k=false→∀j,used j=true→low k≤C (row j) k - u (row j) - v k
 lw:∀k,1≤k→k≤m→used k=false→(low k=1152921504606846976∧∀j,used j=false)∨(used (bE k)=true∧low k=C (row (bE k)) k - u (row (bE k)) - v k)
 ub:∀x,0≤u x∧u x≤K+u i
 vb:∀k,-(K+u i)≤v k∧v k≤0
 lob:∀k,0≤low k∧low k≤1152921504606846976
 uz:∀x,i < x→u x=0
theorem yb {n m:Nat} {i:Nat} {row:Nat→Nat} (hn:n≤m) (hi:1≤i∧i≤n) (hb:∀k,1≤k→k≤m→row k < i) (hj:∀k j,1≤k→k≤m→1≤j→j≤m→row k=row j→row k≠0→k=j):∃k,1≤k∧k≤m∧row k=0:=by
 by_cases h:∃k,1≤k∧k≤m∧row k=0
 ·exact h
 ·exfalso;have bP:∀k,1≤k→k≤m→row k≠0:=fun k k1 k2 e=>h ⟨k,k1,k2,e⟩
  have adk:∀N:Nat,bT (fun _=>(1:Int)) N=N:=fun N=>by
   induction N with
   | zero=>rfl
   | succ N ih=>unfold bT;rw [ih];omega
  have e1:bT (fun _=>(1:Int)) m=bT (fun k=>bT (fun x=>if row k=x then (1:Int) else 0) (i - 1)) m:=by
   refine cT m fun k k1 k2=>?_;have a1:=hb k k1 k2;have a2:=bP k k1 k2;rw [dV (i - 1) (a:=row k) (by omega) (by omega) (fun x x1 x2 x3=>if_neg (fun q=>x3 q.symm)),if_pos rfl]
  rw [lA (fun k x=>if row k=x then (1:Int) else 0) (i - 1) m] at e1
  have e2:bT (fun x=>bT (fun k=>if row k=x then (1:Int) else 0) m) (i - 1)≤bT (fun _=>(1:Int)) (i - 1):=
   rW _ fun x _ _=>(Um row x m (fun k j k1 k2 j1 j2 e=>hj k j k1 k2 j1 j2 e (bP k k1 k2))).2
  rw [adk] at e1 e2;omega
theorem Tree.step {n m:Nat} {C:Nat→Nat→Int} {B K:Int} {i:Nat} {u v:Nat→Int} {row bE:Nat→Nat} {low:Nat→Int} {used:Nat→Bool} {a:Nat} {rk:Nat→Nat} {N:Nat}
 (T:Tree n m C B K i u v row bE low used a rk N) (hn:n≤m) (hB:2*B+K < 1152921504606846976) (hK:0≤K) (hC:∀x k,1≤x→x≤n→1≤k→k≤m→0≤C x k∧C x k≤B) (DD:row a≠0)
 {cQ:Nat→Bool} (vW:∀k,cQ k=true↔(used k=true∨k=a))
 {tN:Nat→Int} {vK:Nat→Nat} {delta:Int} {next:Nat}
 (hl1:∀k,1≤k→k≤m→cQ k=false→tN k=min (low k) (C (row a) k - u (row a) - v k))
 (Xv:∀k,(cQ k=true∨m < k∨k=0)→tN k=low k∧vK k=bE k)
 (Ry:∀k,1≤k→k≤m→cQ k=false→vK k=if C (row a) k - u (row a) - v k < low k then a else bE k)
 (hd:(delta=1152921504606846976∧next=0∧∀k,1≤k→k≤m→cQ k=false→1152921504606846976≤tN k)∨(1≤next∧next≤m∧cQ next=false∧delta=tN next∧∀k,1≤k→k≤m→cQ k=false→delta≤tN k))
 {u' v' low2:Nat→Int}
 (DE:∀k,cQ k=true→u' (row k)=u (row k)+delta) (Gr:∀x,(∀k,cQ k=true→row k≠x)→u' x=u x)
 (qp:∀k,v' k=if cQ k=true then v k - delta else v k)
 (hl3:∀k,k≤m→cQ k=false→low2 k=tN k - delta) (hl4:∀k,(m < k∨cQ k=true)→low2 k=tN k):
 0≤delta∧next≤m∧next≠0∧cQ next=false∧u i+delta≤B∧
 Tree n m C B K i u' v' row vK low2 cQ next (fun k=>if k=next then N else rk k) (N+1):=by
 have fG:∀k,cQ k=true→1≤row k∧row k≤n∧k≤m:=fun k hk=>by
  have hm:k≤m∧row k≠0:=by
   rcases (vW k).1 hk with h | h
   ·exact T.us k h
   ·rw [h];exact ⟨T.am,DD⟩
  have hi:=T.hi;by_cases e:k=0
  ·rw [e,T.mC];omega
  ·have:=T.kx k (by omega) hm.1;omega
 have u0:cQ 0=true:=(vW 0).2 (by rcases T.z with h | h<;>simp [h]);have hua:cQ a=true:=(vW a).2 (.inr rfl)
 have nof:∀k,cQ k=false→used k=false∧k≠a:=fun k hk=>by
  constructor
  ·cases h:used k with
   | false=>rfl
   | true=>rw [(vW k).2 (.inl h)] at hk;cases hk
  ·intro h;rw [(vW k).2 (.inr h)] at hk;cases hk
 have adu:∀k j,cQ k=true→cQ j=true→row k=row j→k=j:=fun k j hk hj e=>by
  have a1:=fG k hk;have a2:=fG j hj;by_cases k0:k=0
  ·by_cases j0:j=0
   ·omega
   ·have:=T.kx j (by omega) a2.2.2;rw [k0,T.mC] at e;omega
  ·by_cases j0:j=0
   ·have:=T.kx k (by omega) a1.2.2;rw [j0,T.mC] at e;omega
   ·exact T.inj k j (by omega) a1.2.2 (by omega) a2.2.2 e (by omega)
 have Rz:∀k,1≤k→k≤m→cQ k=false→∀j,cQ j=true→tN k≤C (row j) k - u (row j) - v k:=fun k k1 k2 hk j hj=>by
  rw [hl1 k k1 k2 hk];rcases (vW j).1 hj with h | h
  ·have:=T.lo k k1 k2 (nof k hk).1 j h;omega
  ·rw [h];omega
 have lw':∀k,1≤k→k≤m→cQ k=false→cQ (vK k)=true∧tN k=C (row (vK k)) k - u (row (vK k)) - v k∨(tN k=1152921504606846976):=fun k k1 k2 hk=>by
  rw [hl1 k k1 k2 hk,Ry k k1 k2 hk];by_cases c:C (row a) k - u (row a) - v k < low k
  ·rw [if_pos c];exact .inl ⟨hua,by omega⟩
  ·rw [if_neg c];rcases T.lw k k1 k2 (nof k hk).1 with ⟨h1,_⟩ | ⟨h1,h2⟩
   ·exact .inr (by omega)
   ·exact .inl ⟨(vW _).2 (.inl h1),by omega⟩
 have lo0:∀k,1≤k→k≤m→cQ k=false→0≤tN k:=fun k k1 k2 hk=>by
  rw [hl1 k k1 k2 hk];have a1:=(T.lob k).1;have a2:=fG a hua;have a3:=T.F9 (row a) k a2.1 a2.2.1 k1 k2;omega
 obtain ⟨f,f1,f2,f3⟩:=yb hn T.hi T.kx T.inj
 have hff:cQ f=false:=by
  cases h:cQ f with
  | false=>rfl
  | true=>have:=(fG f h).1;omega
 have lf:=Rz f f1 f2 hff 0 u0;have hvf:=T.vz f f1 f2 f3;have hCf:=hC i f T.hi.1 T.hi.2 f1 f2;have hui:=(T.ub i).1;rw [T.mC,hvf] at lf;rcases hd with ⟨d1,_,d3⟩ | ⟨d1,d2,d3,d4,d5⟩
 ·exfalso;have:=d3 f f1 f2 hff;have hk0:=(T.vb 0);have hk1:=(T.ub i);omega
 have ag6:0≤delta:=by rw [d4];exact lo0 next d1 d2 d3
 have dB:u i+delta≤B:=by have:=d5 f f1 f2 hff;omega
 refine ⟨ag6,d2,by omega,d3,dB,?_⟩;have ui:u' i=u i+delta:=by have:=DE 0 u0;rwa [T.mC] at this
 have ule:∀x,u' x=u x∨u' x=u x+delta:=fun x=>by
  by_cases h:∃k,cQ k=true∧row k=x
  ·obtain ⟨k,h1,h2⟩:=h;right;rw [←h2];exact DE k h1
  ·exact .inl (Gr x fun k hk e=>h ⟨k,hk,e⟩)
 have hwn:=lw' next d1 d2 d3
 have hwn:cQ (vK next)=true∧tN next=C (row (vK next)) next - u (row (vK next)) - v next:=by
  rcases hwn with h | h
  ·exact h
  ·have:=d5 f f1 f2 hff;omega
 have W7:∀k j,cQ j=true→cQ k=true→u (row j)+v k=C (row j) k→u' (row j)+v' k=C (row j) k:=fun k j hj hk h=>by
  rw [DE j hj,qp k,if_pos hk];omega
 refine ⟨fun x k x1 x2 k1 k2=>?_,fun k k1 k2 hk=>?_,fun k k1 k2 hk=>?_,T.kx,T.inj,T.Ua,T.hi,T.mC,d2,d3,fun k hk=>⟨(fG k hk).2.2,by have:=(fG k hk).1;omega⟩,.inl u0,fun k hk k0=>?_,fun k hk=>?_,fun k k1 k2 hk j hj=>?_,fun k k1 k2 hk=>?_,fun x=>?_,fun k=>?_,fun k=>?_,fun x hx=>?_⟩
 ·
  have hf:=T.F9 x k x1 x2 k1 k2;rw [qp k];by_cases hk:cQ k=true
  ·rw [if_pos hk];rcases ule x with e | e<;>omega
  ·rw [if_neg hk];have hk:cQ k=false:=by simpa using hk
   by_cases h:∃j,cQ j=true∧row j=x
   ·obtain ⟨j,h1,h2⟩:=h;have:=Rz k k1 k2 hk j h1;have:=d5 k k1 k2 hk;rw [←h2,DE j h1];omega
   ·rw [Gr x fun j hj e=>h ⟨j,hj,e⟩];exact hf
 ·
  have ht:=T.tight k k1 k2 hk;by_cases hu:cQ k=true
  ·exact W7 k k hu hu ht
  ·rw [qp k,if_neg hu,Gr (row k) fun j hj e=>hu (by
    have jr:=fG j hj
    have ek:j=k:=by
     by_cases j0:j=0
     ·have:=T.kx k k1 k2;rw [j0,T.mC] at e;omega
     ·exact T.inj j k (by omega) jr.2.2 k1 k2 e (by omega)
    rw [←ek];exact hj)]
   exact ht
 ·
  rw [qp k,if_neg fun h=>by have:=(fG k h).1;omega];exact T.vz k k1 k2 hk
 ·
  by_cases e:k=next
  ·subst e;refine ⟨hwn.1,?_,?_⟩
   ·have h1:vK k≠k:=fun e=>by rw [e,d3] at hwn;cases hwn.1
    simp only [if_true,if_neg h1];exact T.rkN _ ((vW _).1 hwn.1)
   ·rw [DE _ hwn.1,qp k,if_neg (by rw [d3];decide)];omega
  ·have hk:cQ k=true:=by
    rcases hk with h | h
    ·exact h
    ·exact absurd h e
   obtain ⟨w1,w2,w3⟩:=T.wy k ((vW k).1 hk) k0;have ew:vK k=bE k:=(Xv k (.inl hk)).2;have hwu:cQ (bE k)=true:=(vW _).2 (.inl w1);rw [ew];refine ⟨hwu,?_,W7 k (bE k) hwu hk w3⟩;have h1:bE k≠next:=fun e=>by rw [e,d3] at hwu;cases hwu
   simp only [if_neg e,if_neg h1];exact w2
 ·
  by_cases e:k=next
  ·simp only [if_pos e];omega
  ·have hk:cQ k=true:=by
    rcases hk with h | h
    ·exact h
    ·exact absurd h e
   simp only [if_neg e];have:=T.rkN k ((vW k).1 hk);omega
 ·
  have h1:=Rz k k1 k2 hk j hj;rw [hl3 k k2 hk,DE j hj,qp k,if_neg (by rw [hk];decide)];omega
 ·
  right;have h:=lw' k k1 k2 hk;rw [hl3 k k2 hk,qp k,if_neg (by rw [hk];decide)];rcases h with ⟨h1,h2⟩ | h
  ·refine ⟨h1,?_⟩;rw [DE _ h1,h2];omega
  ·
   exfalso;have h1:=Rz k k1 k2 hk a hua;have ar:=fG a hua;have h2:=hC (row a) k ar.1 ar.2.1 k1 k2;have h3:=(T.ub (row a)).1;have h4:=(T.vb k).1;omega
 ·have h:=T.ub x;have h0:=T.ub i;rw [ui];rcases ule x with e | e<;>rw [e]<;>omega
 ·have h:=T.vb k;rw [qp k,ui];split<;>omega
 ·
  have hb:=T.lob k;by_cases hk:cQ k=true
  ·rw [hl4 k (.inr hk),(Xv k (.inl hk)).1];exact hb
  ·have hk:cQ k=false:=by simpa using hk
   by_cases hm:m < k
   ·rw [hl4 k (.inl hm),(Xv k (.inr (.inl hm))).1];exact hb
   ·have k0:k≠0:=fun e=>by rw [e,u0] at hk;cases hk
    have h5:=d5 k (by omega) (by omega) hk;have h6:=hl1 k (by omega) (by omega) hk;rw [hl3 k (by omega) hk];omega
 ·rw [Gr x fun k hk e=>by
   have hr:=fG k hk;by_cases k0:k=0
   ·rw [k0,T.mC] at e;omega
   ·have:=T.kx k (by omega) hr.2.2;omega]
  exact T.uz x hx
structure Aug (n m:Nat) (C:Nat→Nat→Int) (i:Nat) (u v:Nat→Int) (row:Nat→Nat) (used:Nat→Bool) (rk:Nat→Nat) (r:Nat→Nat) (a:Nat):Prop where
 am:a≤m
 old:∀k,used k=true→rk k < rk a→r k=row k
 tight:∀k,1≤k→k≤m→k≠a→r k≠0→u (r k)+v k=C (r k) k
 vz:∀k,1≤k→k≤m→k≠a→r k=0→v k=0
 rb:∀k,k≤m→k≠a→r k≤i
 inj:∀k j,k≤m→j≤m→k≠a→j≠a→r k=r j→r k≠0→k=j
 Ua:∀x,1≤x→x≤i→∃k,k≤m∧k≠a∧r k=x
theorem Tree.aug {n m:Nat} {C:Nat→Nat→Int} {B K:Int} {i:Nat} {u v:Nat→Int} {row bE:Nat→Nat} {low:Nat→Int} {used:Nat→Bool} {a:Nat} {rk:Nat→Nat} {N:Nat}
 (T:Tree n m C B K i u v row bE low used a rk N) (DD:row a=0):Aug n m C i u v row used rk row a:=by
 have hi:=T.hi;have ha0:a≠0:=fun e=>by rw [e,T.mC] at DD;omega
 refine ⟨T.am,fun k _ _=>rfl,fun k k1 k2 _=>T.tight k k1 k2,fun k k1 k2 _=>T.vz k k1 k2,fun k k2 ka=>?_,fun k j k2 j2 ka ja e h=>?_,fun x x1 x2=>?_⟩
 ·by_cases k0:k=0
  ·rw [k0,T.mC];omega
  ·have:=T.kx k (by omega) k2;omega
 ·by_cases k0:k=0
  ·by_cases j0:j=0
   ·omega
   ·have:=T.kx j (by omega) j2;rw [k0,T.mC] at e;omega
  ·by_cases j0:j=0
   ·have:=T.kx k (by omega) k2;rw [j0,T.mC] at e;omega
   ·exact T.inj k j (by omega) k2 (by omega) j2 e h
 ·by_cases e:x=i
  ·exact ⟨0,by omega,fun q=>ha0 q.symm,by rw [T.mC,e]⟩
  ·obtain ⟨k,k1,k2,k3⟩:=T.Ua x x1 (by omega);exact ⟨k,k2,fun q=>by rw [q,DD] at k3;omega,k3⟩
theorem Aug.step {n m:Nat} {C:Nat→Nat→Int} {B K:Int} {i:Nat} {u v:Nat→Int} {row bE:Nat→Nat} {low:Nat→Int} {used:Nat→Bool} {a0:Nat} {rk:Nat→Nat} {N:Nat} {r:Nat→Nat} {a:Nat}
 (T:Tree n m C B K i u v row bE low used a0 rk N) (A:Aug n m C i u v row used rk r a) (ha:used a=true∨a=a0) (h0:a≠0) {r':Nat→Nat} (hr1:r' a=r (bE a)) (Rw:∀k,k≠a→r' k=r k):
 used (bE a)=true∧bE a≤m∧rk (bE a) < rk a∧r (bE a)≠0∧Aug n m C i u v row used rk r' (bE a):=by
 obtain ⟨w1,w2,w3⟩:=T.wy a ha h0;have eb:=A.old (bE a) w1 w2;have hb:=T.us (bE a) w1;have bP:bE a≠a:=fun e=>by rw [e] at w2;omega
 have hbr:r (bE a)≠0:=by rw [eb];exact hb.2
 refine ⟨w1,hb.1,w2,hbr,hb.1,fun k k1 k2=>?_,fun k k1 k2 kb hk=>?_,fun k k1 k2 kb hk=>?_,fun k k2 kb=>?_,fun k j k2 j2 kb jb e h=>?_,fun x x1 x2=>?_⟩
 ·rw [Rw k fun e=>by rw [e] at k2;omega];exact A.old k k1 (by omega)
 ·by_cases e:k=a
  ·subst e;rw [hr1,eb];exact w3
  ·rw [Rw k e] at hk ⊢;exact A.tight k k1 k2 e hk
 ·by_cases e:k=a
  ·subst e;rw [hr1] at hk;exact absurd hk hbr
  ·rw [Rw k e] at hk;exact A.vz k k1 k2 e hk
 ·by_cases e:k=a
  ·subst e;rw [hr1];exact A.rb _ hb.1 bP
  ·rw [Rw k e];exact A.rb k k2 e
 ·by_cases ek:k=a
  ·by_cases ej:j=a
   ·rw [ek,ej]
   ·rw [ek,hr1,Rw j ej] at e;have:=A.inj (bE a) j hb.1 j2 bP ej e hbr;exact absurd this.symm jb
  ·by_cases ej:j=a
   ·rw [ej,hr1,Rw k ek] at e;have:=A.inj k (bE a) k2 hb.1 ek bP e (by rw [e];exact hbr);exact absurd this kb
   ·rw [Rw k ek,Rw j ej] at e;rw [Rw k ek] at h;exact A.inj k j k2 j2 ek ej e h
 ·obtain ⟨k,k1,k2,k3⟩:=A.Ua x x1 x2;by_cases e:k=bE a
  ·exact ⟨a,A.am,fun q=>bP q.symm,by rw [hr1,←e,k3]⟩
  ·exact ⟨k,k1,e,by rw [Rw k k2,k3]⟩
structure xk (n m:Nat) (C:Nat→Nat→Int) (B:Int) (t:Nat) (u v:Nat→Int) (row:Nat→Nat):Prop where
 inv:Inv n m C t u v row
 ub:∀x,0≤u x∧u x≤t*B
 vb:∀k,-(t*B)≤v k∧v k≤0
 uz:∀x,t < x→u x=0
theorem Aug.fin {n m:Nat} {C:Nat→Nat→Int} {B:Int} {t:Nat} {u v:Nat→Int} {row bE:Nat→Nat} {low:Nat→Int} {used:Nat→Bool} {a0:Nat} {rk:Nat→Nat} {N:Nat} {r:Nat→Nat}
 (T:Tree n m C B (t*B) (t+1) u v row bE low used a0 rk N) (hn:n≤m) (hC:∀x k,1≤x→x≤n→1≤k→k≤m→0≤C x k∧C x k≤B) (A:Aug n m C (t+1) u v row used rk r 0):xk n m C B (t+1) u v r:=by
 obtain ⟨f,f1,f2,f3⟩:=yb hn T.hi T.kx T.inj;have h1:=T.F9 (t+1) f T.hi.1 T.hi.2 f1 f2;have h2:=T.vz f f1 f2 f3;have h3:=hC (t+1) f T.hi.1 T.hi.2 f1 f2;have e:((t+1:Nat):Int)*B=t*B+B:=by rw [Int.natCast_succ,Int.add_mul,Int.one_mul]
 refine ⟨⟨T.F9,fun k k1 k2=>A.tight k k1 k2 (by omega),fun k _ _=>(T.vb k).2,fun k k1 k2=>A.vz k k1 k2 (by omega),fun k k1 k2=>A.rb k k2 (by omega),fun k j k1 k2 j1 j2 e h=>A.inj k j k2 j2 (by omega) (by omega) e h,fun x x1 x2=>?_⟩,fun x=>?_,fun k=>?_,fun x hx=>T.uz x hx⟩
 ·obtain ⟨k,k1,k2,k3⟩:=A.Ua x x1 x2;exact ⟨k,by omega,k1,k3⟩
 ·have:=T.ub x;rw [e];omega
 ·have:=T.vb k;rw [e];omega
theorem xk.tree {n m:Nat} {C:Nat→Nat→Int} {B:Int} {t:Nat} {u v:Nat→Int} {row:Nat→Nat} (O:xk n m C B t u v row) (ht:t < n) {adv bE:Nat→Nat} {low:Nat→Int} {used:Nat→Bool} (hr0:adv 0=t+1) (hr:∀k,k≠0→adv k=row k) (hl:∀k,k≤m→low k=1152921504606846976) (hlb:∀k,0≤low k∧low k≤1152921504606846976) (yl:∀k,used k=false):
 Tree n m C B (t*B) (t+1) u v adv bE low used 0 (fun _=>0) 1:=by
 have hu0:=O.uz (t+1) (by omega);refine ⟨O.inv.F9,fun k k1 k2 hk=>?_,fun k k1 k2 hk=>?_,fun k k1 k2=>?_,fun k j k1 k2 j1 j2 e h=>?_,fun x x1 x2=>?_,by omega,hr0,by omega,yl 0,fun k hk=>?_,.inr rfl,fun k hk k0=>?_,fun k _=>by omega,fun k _ _ _ j hj=>?_,fun k _ hk _=>.inl ⟨hl k hk,yl⟩,fun x=>?_,fun k=>?_,hlb,fun x hx=>O.uz x (by omega)⟩
 ·rw [hr k (by omega)] at hk ⊢;exact O.inv.tight k k1 k2 hk
 ·rw [hr k (by omega)] at hk;exact O.inv.vz k k1 k2 hk
 ·rw [hr k (by omega)];have:=O.inv.kx k k1 k2;omega
 ·rw [hr k (by omega),hr j (by omega)] at e;rw [hr k (by omega)] at h;exact O.inv.inj k j k1 k2 j1 j2 e h
 ·obtain ⟨k,k1,k2,k3⟩:=O.inv.Ua x x1 (by omega);exact ⟨k,k1,k2,by rw [hr k (by omega)];exact k3⟩
 ·rw [yl] at hk;cases hk
 ·rcases hk with h | h
  ·rw [yl] at h;cases h
  ·exact absurd h k0
 ·rw [yl] at hj;cases hj
 ·have:=O.ub x;rw [hu0];omega
 ·have:=O.vb k;rw [hu0];omega
theorem xk.start {n m:Nat} {C:Nat→Nat→Int} {B:Int} (hC:∀x k,1≤x→x≤n→1≤k→k≤m→0≤C x k∧C x k≤B) {u v:Nat→Int} {row:Nat→Nat} (hu:∀x,u x=0) (hv:∀x,v x=0) (hr:∀x,row x=0):xk n m C B 0 u v row:=by
 refine ⟨⟨fun x k x1 x2 k1 k2=>?_,fun k _ _ h=>absurd (hr k) h,fun k _ _=>by rw [hv];omega,fun k _ _ _=>hv k,fun k _ _=>by rw [hr];omega,fun k j _ _ _ _ _ h=>absurd (hr k) h,fun x x1 x2=>by omega⟩,fun x=>?_,fun k=>?_,fun x _=>hu x⟩
 ·have:=hC x k x1 x2 k1 k2;rw [hu,hv];omega
 ·rw [hu];simp
 ·rw [hv];simp
end F
namespace F
def vP (bm:Int):List (List Int)→List Bool→List (Int×List Int)
 | [],_=>[(0,[])]
 | r::rs,tk=>(vP bm rs tk).map (fun p=>(bm+p.1,-1::p.2))++
    (List.range r.length).flatMap fun k=>if r.getD k 0 < 0∨tk.getD k false=true then [] else (vP bm rs (tk.set k true)).map fun p=>(r.getD k 0+p.1,(k:Int)::p.2)
def okA:List (List Int)→List Bool→List Int→Prop
 | [],_,a=>a=[]
 | r::rs,tk,a=>match a with
   | []=>False
   | x::xs=>(x= -1∧okA rs tk xs)∨∃k:Nat,x=k∧k < r.length∧0≤r.getD k 0∧tk.getD k false=false∧okA rs (tk.set k true) xs
def val (bm:Int):List (List Int)→List Int→Int
 | r::rs,x::xs=>(if x= -1 then bm else r.getD x.toNat 0)+val bm rs xs
 | _,_=>0
theorem lU (bm:Int):∀(rs:List (List Int)) (tk:List Bool) (s:Int) (a:List Int),(s,a)∈vP bm rs tk↔okA rs tk a∧s=val bm rs a
 | [],tk,s,a=>by
   simp only [vP,okA,List.mem_singleton,Prod.mk.injEq];constructor
   ·rintro ⟨rfl,rfl⟩;exact ⟨rfl,rfl⟩
   ·rintro ⟨rfl,h⟩
    exact ⟨h,rfl⟩
 | r::rs,tk,s,a=>by
   simp only [vP,List.mem_append,List.mem_map,List.mem_flatMap,List.mem_range];constructor
   ·rintro (⟨⟨s',a'⟩,h,e⟩ | ⟨k,hk,h⟩)
    ·simp only [Prod.mk.injEq] at e;obtain ⟨rfl,rfl⟩:=e;obtain ⟨h1,rfl⟩:=(lU bm rs tk s' a').1 h;exact ⟨.inl ⟨rfl,h1⟩,rfl⟩
    ·split at h
     ·cases h
     ·rename_i c;rw [List.mem_map] at h;obtain ⟨⟨s',a'⟩,h,e⟩:=h;simp only [Prod.mk.injEq] at e;obtain ⟨rfl,rfl⟩:=e;obtain ⟨h1,rfl⟩:=(lU bm rs _ s' a').1 h;have c1:¬r.getD k 0 < 0:=fun q=>c (.inl q)
      have c2:tk.getD k false=false:=by
       cases q:tk.getD k false with
       | false=>rfl
       | true=>exact absurd (.inr q) c
      refine ⟨.inr ⟨k,rfl,hk,by omega,c2,h1⟩,?_⟩;show _=(if (k:Int)= -1 then bm else r.getD (k:Int).toNat 0)+val bm rs a';rw [if_neg (by omega),Int.toNat_natCast]
   ·rintro ⟨h,rfl⟩
    cases a with
    | nil=>exact h.elim
    | cons x xs=>
      rcases h with ⟨rfl,h⟩ | ⟨k,rfl,hk,h1,h2,h3⟩
      ·exact .inl ⟨(val bm rs xs,xs),(lU bm rs tk _ _).2 ⟨h,rfl⟩,rfl⟩
      ·refine .inr ⟨k,hk,?_⟩;rw [if_neg (by rintro (q | q);omega;rw [h2] at q;cases q),List.mem_map];refine ⟨(val bm rs xs,xs),(lU bm rs _ _ _).2 ⟨h3,rfl⟩,?_⟩;show (_,_)=((if (k:Int)= -1 then bm else r.getD (k:Int).toNat 0)+val bm rs xs,_);rw [if_neg (by omega),Int.toNat_natCast]
theorem afQ (l:List Bool) (k j:Nat):(l.set k true).getD j false=if k=j∧k < l.length then true else l.getD j false:=by
 rw [List.getD_eq_getElem?_getD,List.getElem?_set,List.getD_eq_getElem?_getD];by_cases e:k=j
 ·subst e;by_cases h:k < l.length
  ·simp [h]
  ·simp [h]
 ·simp [e]
theorem rG:∀(rs:List (List Int)) (tk:List Bool) (a:List Int),(∀r∈rs,r.length=tk.length)→(okA rs tk a↔a.length=rs.length∧
 (∀i,i < rs.length→a.getD i 0= -1∨∃k:Nat,a.getD i 0=k∧k < tk.length∧0≤(rs.getD i []).getD k 0∧tk.getD k false=false)∧
 ∀i j,i < j→j < rs.length→a.getD i 0=a.getD j 0→a.getD i 0= -1)
 | [],tk,a,_=>by
   simp only [okA];constructor
   ·rintro rfl;exact ⟨rfl,fun i h=>absurd h (Nat.not_lt_zero i),fun i j _ h=>absurd h (Nat.not_lt_zero j)⟩
   ·rintro ⟨h,_⟩
    exact List.eq_nil_of_length_eq_zero h
 | r::rs,tk,a,hl=>by
   have Xv:∀q∈rs,q.length=tk.length:=fun q hq=>hl q (List.mem_cons_of_mem _ hq);have hr:r.length=tk.length:=hl r (List.mem_cons_self ..)
   cases a with
   | nil=>simp [okA]
   | cons x xs=>
     have ih1:=rG rs tk xs Xv;have ih2:=fun k=>rG rs (tk.set k true) xs (fun q hq=>by rw [List.length_set];exact Xv q hq);constructor
     ·rintro (⟨rfl,h⟩ | ⟨k,rfl,hk,h1,h2,h3⟩)
      ·obtain ⟨g1,g2,g3⟩:=ih1.1 h;refine ⟨by simp [g1],fun i hi=>?_,fun i j Nk hj=>?_⟩
       ·cases i with
        | zero=>exact .inl rfl
        | succ i=>exact g2 i (by simpa using hi)
       ·cases i with
        | zero=>intro _;rfl
        | succ i=>cases j with
          | zero=>omega
          | succ j=>exact g3 i j (by omega) (by simpa using hj)
      ·obtain ⟨g1,g2,g3⟩:=(ih2 k).1 h3
       have Ro:∀i,i < rs.length→xs.getD i 0= -1∨∃k':Nat,xs.getD i 0=k'∧k'≠k∧k' < tk.length∧0≤(rs.getD i []).getD k' 0∧tk.getD k' false=false:=fun i hi=>by
        rcases g2 i hi with h | ⟨k',e1,e2,e3,e4⟩
        ·exact .inl h
        ·right;rw [List.length_set] at e2;rw [afQ] at e4
         have bP:k'≠k:=fun q=>by
          rw [q,if_pos ⟨rfl,by omega⟩] at e4;cases e4
         rw [if_neg (fun q=>bP q.1.symm)] at e4;exact ⟨k',e1,bP,e2,e3,e4⟩
       refine ⟨by simp [g1],fun i hi=>?_,fun i j Nk hj=>?_⟩
       ·cases i with
        | zero=>exact .inr ⟨k,rfl,by omega,h1,h2⟩
        | succ i=>
          rcases Ro i (by simpa using hi) with h | ⟨k',e1,_,e2,e3,e4⟩
          ·exact .inl h
          ·exact .inr ⟨k',e1,e2,e3,e4⟩
       ·cases j with
        | zero=>omega
        | succ j=>
          cases i with
          | zero=>
            intro e;have e:(k:Int)=xs.getD j 0:=e;rcases Ro j (by simpa using hj) with h | ⟨k',e1,bP,_⟩
            ·omega
            ·exact absurd (by omega) bP
          | succ i=>exact g3 i j (by omega) (by simpa using hj)
     ·rintro ⟨g1,g2,g3⟩;have Pn:xs.length=rs.length:=by simpa using g1
      have t2:∀i,i < rs.length→xs.getD i 0= -1∨∃k:Nat,xs.getD i 0=k∧k < tk.length∧0≤(rs.getD i []).getD k 0∧tk.getD k false=false:=fun i hi=>g2 (i+1) (by simpa using hi);have t3:∀i j,i < j→j < rs.length→xs.getD i 0=xs.getD j 0→xs.getD i 0= -1:=fun i j Nk hj=>g3 (i+1) (j+1) (by omega) (by simpa using hj);rcases g2 0 (by simp) with h | ⟨k,e1,e2,e3,e4⟩
      ·exact .inl ⟨h,ih1.2 ⟨Pn,t2,t3⟩⟩
      ·have e1:x=(k:Int):=e1;refine .inr ⟨k,e1,by omega,e3,e4,(ih2 k).2 ⟨Pn,fun i hi=>?_,t3⟩⟩;rcases t2 i hi with h | ⟨k',f1,f2,f3,f4⟩
       ·exact .inl h
       ·right
        have bP:k≠k':=fun q=>by
         have:=g3 0 (i+1) (by omega) (by simpa using hi) (by show x=xs.getD i 0;rw [e1,f1,q]);have this:x= -1:=this;omega
        refine ⟨k',f1,by rw [List.length_set];exact f2,f3,?_⟩;rw [afQ,if_neg (fun q=>bP q.1)];exact f4
theorem wv (bm:Int):∀(rs:List (List Int)) (a:List Int),a.length=rs.length→val bm rs a=bT (fun x=>if a.getD (x - 1) 0= -1 then bm else (rs.getD (x - 1) []).getD (a.getD (x - 1) 0).toNat 0) rs.length
 | [],a,h=>by
   rw [List.eq_nil_of_length_eq_zero h]
   rfl
 | r::rs,[],h=>by simp at h
 | r::rs,x::xs,h=>by
   have ih:=wv bm rs xs (by simpa using h)
   have shift:∀(f:Nat→Int) (n:Nat),bT f (n+1)=f 1+bT (fun k=>f (k+1)) n:=fun f n=>by
    induction n with
    | zero=>show 0+f 1=f 1+0;omega
    | succ n ih=>unfold bT;rw [ih];unfold bT;omega
   show (if x= -1 then bm else r.getD x.toNat 0)+val bm rs xs=bT _ (rs.length+1);rw [shift,ih];congr 1;refine cT _ fun k k1 k2=>?_;obtain ⟨j,rfl⟩:∃j,k=j+1:=⟨k - 1,by omega⟩;rfl
def Ak (rs:List (List Int)) (kM:Nat) (bm:Int) (tk:List Bool) (i k:Nat):Int:=
 if kM≤k then (if k - kM=i then bm else 36028797018963968)
 else if tk.getD k false=true∨(rs.getD i []).getD k 0 < 0 then 36028797018963968 else (rs.getD i []).getD k 0
def cB (rs:List (List Int)) (kM:Nat) (bm:Int) (tk:List Bool) (x k:Nat):Int:=Ak rs kM bm tk (x - 1) (k - 1)
def Zy (rs:List (List Int)) (bm:Int) (tk:List Bool):Prop:=(∀r∈rs,r.length=tk.length∧∀k,r.getD k 0≤1099511627776)∧0≤bm∧bm≤1099511627776∧rs.length≤20
theorem nu {α:Type} {l:List α} {d:α} {i:Nat} (h:i < l.length):l.getD i d∈l:=by
 rw [List.getD_eq_getElem?_getD,List.getElem?_eq_getElem h];exact List.getElem_mem h
theorem TB {rs:List (List Int)} {bm:Int} {tk:List Bool} (h:Zy rs bm tk) {i:Nat} (hi:i < rs.length) (k:Nat):0≤Ak rs tk.length bm tk i k∧Ak rs tk.length bm tk i k≤36028797018963968:=by
 obtain ⟨h1,h2,h3,h4⟩:=h;have:=(h1 _ (nu (d:=[]) hi)).2 k;unfold Ak;split
 ·split<;>omega
 ·split
  ·omega
  ·rename_i c;have c1:¬(rs.getD i []).getD k 0 < 0:=fun q=>c (.inr q);omega
theorem PO {rs:List (List Int)} {bm:Int} {tk:List Bool} (h:Zy rs bm tk) {u v:Nat→Int} {row:Nat→Nat} (I:Inv rs.length (tk.length+rs.length) (cB rs tk.length bm tk) rs.length u v row):
 (∃a,(bT (fun k=>if row k=0 then 0 else cB rs tk.length bm tk (row k) k) (tk.length+rs.length),a)∈vP bm rs tk)∧∀p∈vP bm rs tk,bT (fun k=>if row k=0 then 0 else cB rs tk.length bm tk (row k) k) (tk.length+rs.length)≤p.1:=by
 have hlen:∀r∈rs,r.length=tk.length:=fun r hr=>(h.1 r hr).1
 have lower:∀p∈vP bm rs tk,bT (fun k=>if row k=0 then 0 else cB rs tk.length bm tk (row k) k) (tk.length+rs.length)≤p.1:=by
  rintro ⟨s,a⟩ hp;obtain ⟨h1,rfl⟩:=(lU bm rs tk s a).1 hp;obtain ⟨g1,g2,g3⟩:=(rG rs tk a hlen).1 h1;have key:=PB I (fun x=>if a.getD (x - 1) 0= -1 then tk.length+x else (a.getD (x - 1) 0).toNat+1) (fun x x1 x2=>?_) (fun x y x1 x2 y1 y2 e=>?_)
  ·refine Int.le_trans key (Int.le_of_eq ?_);rw [wv bm rs a g1];refine cT _ fun x x1 x2=>?_;have hx:=g2 (x - 1) (by omega);unfold cB Ak;by_cases c:a.getD (x - 1) 0= -1
   ·rw [if_pos c,if_pos c,if_pos (by omega),if_pos (by omega)]
   ·rw [if_neg c,if_neg c];rcases hx with h | ⟨k,e1,e2,e3,e4⟩
    ·exact absurd h c
    ·rw [e1,Int.toNat_natCast,Nat.add_sub_cancel,if_neg (by omega),if_neg];rintro (q | q)
     ·rw [e4] at q;cases q
     ·omega
  ·show 1≤(if a.getD (x - 1) 0= -1 then tk.length+x else (a.getD (x - 1) 0).toNat+1)∧(if a.getD (x - 1) 0= -1 then tk.length+x else (a.getD (x - 1) 0).toNat+1)≤tk.length+rs.length;rcases g2 (x - 1) (by omega) with h | ⟨k,e1,e2,_⟩
   ·rw [if_pos h];omega
   ·rw [if_neg (by omega),e1,Int.toNat_natCast];omega
  ·have e:(if a.getD (x - 1) 0= -1 then tk.length+x else (a.getD (x - 1) 0).toNat+1)=(if a.getD (y - 1) 0= -1 then tk.length+y else (a.getD (y - 1) 0).toNat+1):=e;rcases g2 (x - 1) (by omega) with hx | ⟨k,e1,e2,_⟩<;>rcases g2 (y - 1) (by omega) with hy | ⟨j,f1,f2,_⟩
   ·rw [if_pos hx,if_pos hy] at e;omega
   ·rw [if_pos hx,if_neg (by omega),f1,Int.toNat_natCast] at e;omega
   ·rw [if_neg (by omega),if_pos hy,e1,Int.toNat_natCast] at e;omega
   ·rw [if_neg (by omega),if_neg (by omega),e1,f1,Int.toNat_natCast,Int.toNat_natCast] at e;by_cases c:x=y
    ·exact c
    ·exfalso;rcases Nat.lt_or_gt_of_ne c with c | c
     ·have:=g3 (x - 1) (y - 1) (by omega) (by omega) (by rw [e1,f1];omega);omega
     ·have:=g3 (y - 1) (x - 1) (by omega) (by omega) (by rw [e1,f1];omega);omega
 refine ⟨?_,lower⟩;obtain ⟨s,s1,s2,s3⟩:=UK I;have Uf:=h;obtain ⟨h1,h2,h3,h4⟩:=h
 have agT:(val bm rs (List.replicate rs.length (-1)),List.replicate rs.length (-1))∈vP bm rs tk:=by
  rw [lU];refine ⟨(rG rs tk _ hlen).2 ⟨List.length_replicate,fun i hi=>.inl ?_,fun i j Nk hj _=>?_⟩,rfl⟩
  ·rw [List.getD_eq_getElem?_getD,List.getElem?_replicate,if_pos hi];rfl
  ·rw [List.getD_eq_getElem?_getD,List.getElem?_replicate,if_pos (by omega)];rfl
 have hm:=lower _ agT
 have hmv:val bm rs (List.replicate rs.length (-1))≤20*1099511627776:=by
  rw [wv bm rs _ List.length_replicate]
  have e:bT (fun x=>if (List.replicate rs.length (-1:Int)).getD (x - 1) 0= -1 then bm else (rs.getD (x - 1) []).getD ((List.replicate rs.length (-1:Int)).getD (x - 1) 0).toNat 0) rs.length=bT (fun _=>(1:Int)*bm) rs.length:=by
   refine cT _ fun x x1 x2=>?_;rw [if_pos,Int.one_mul];rw [List.getD_eq_getElem?_getD,List.getElem?_replicate,if_pos (by omega)];rfl
  rw [e,zN (c:=bm) (f:=fun _=>1)]
  have adk:∀N:Nat,bT (fun _=>(1:Int)) N=N:=fun N=>by
   induction N with
   | zero=>rfl
   | succ N ih=>unfold bT;rw [ih];omega
  rw [adk];have:(rs.length:Int)*bm≤20*bm:=Int.mul_le_mul_of_nonneg_right (by omega) h2;omega
 have hm:bT (fun x=>cB rs tk.length bm tk x (s x)) rs.length≤20*1099511627776:=by rw [←s3];exact Int.le_trans hm hmv
 have one_le:∀(f:Nat→Int) (n x:Nat),(∀k,1≤k→k≤n→0≤f k)→1≤x→x≤n→f x≤bT f n:=fun f n=>by
  induction n with
  | zero=>intro x _ h1 h2;omega
  | succ n ih=>
    intro x hf x1 x2;unfold bT;have hn:0≤f (n+1):=hf (n+1) (by omega) (by omega);by_cases e:x=n+1
    ·subst e
     have:0≤bT f n:=by
      have:=rW (f:=fun _=>0) (g:=f) n (fun k k1 k2=>hf k k1 (by omega))
      rwa [oK] at this
     omega
    ·have:=ih x (fun k k1 k2=>hf k k1 (by omega)) x1 (by omega);omega
 have small:∀x,1≤x→x≤rs.length→cB rs tk.length bm tk x (s x) < 36028797018963968:=fun x x1 x2=>by
  have h9:cB rs tk.length bm tk x (s x)≤_:=one_le (fun x=>cB rs tk.length bm tk x (s x)) rs.length x (fun k k1 k2=>(TB Uf (by omega) _).1) x1 x2;omega
 have shape:∀x,1≤x→x≤rs.length→(s x=tk.length+x∧cB rs tk.length bm tk x (s x)=bm)∨(s x≤tk.length∧0≤(rs.getD (x - 1) []).getD (s x - 1) 0∧tk.getD (s x - 1) false=false∧cB rs tk.length bm tk x (s x)=(rs.getD (x - 1) []).getD (s x - 1) 0):=fun x x1 x2=>by
  have hs:=small x x1 x2;have Rx:=s1 x x1 x2;unfold cB Ak at hs ⊢;by_cases c:tk.length≤s x - 1
  ·rw [if_pos c] at hs ⊢;by_cases c2:s x - 1 - tk.length=x - 1
   ·rw [if_pos c2];exact .inl ⟨by omega,rfl⟩
   ·rw [if_neg c2] at hs;omega
  ·rw [if_neg c] at hs ⊢;by_cases c2:tk.getD (s x - 1) false=true∨(rs.getD (x - 1) []).getD (s x - 1) 0 < 0
   ·rw [if_pos c2] at hs;omega
   ·rw [if_neg c2];refine .inr ⟨by omega,?_,?_,rfl⟩
    ·have:¬(rs.getD (x - 1) []).getD (s x - 1) 0 < 0:=fun q=>c2 (.inr q);omega
    ·cases q:tk.getD (s x - 1) false with
     | false=>rfl
     | true=>exact absurd (.inl q) c2
 have ag:∀i,i < rs.length→((List.range rs.length).map fun i=>if s (i+1)=tk.length+(i+1) then (-1:Int) else ((s (i+1) - 1:Nat):Int)).getD i 0=if s (i+1)=tk.length+(i+1) then (-1:Int) else ((s (i+1) - 1:Nat):Int):=fun i hi=>by
  rw [List.getD_eq_getElem?_getD,List.getElem?_map,List.getElem?_range hi];rfl
 have al:((List.range rs.length).map fun i=>if s (i+1)=tk.length+(i+1) then (-1:Int) else ((s (i+1) - 1:Nat):Int)).length=rs.length:=by simp
 refine ⟨(List.range rs.length).map fun i=>if s (i+1)=tk.length+(i+1) then (-1:Int) else ((s (i+1) - 1:Nat):Int),?_⟩;generalize (List.range rs.length).map (fun i=>if s (i+1)=tk.length+(i+1) then (-1:Int) else ((s (i+1) - 1:Nat):Int))=a at*;rw [lU];refine ⟨(rG rs tk a hlen).2 ⟨al,fun i hi=>?_,fun i j Nk hj e=>?_⟩,?_⟩
 ·rw [ag i hi];rcases shape (i+1) (by omega) (by omega) with ⟨g,_⟩ | ⟨g1,g2,g3,_⟩
  ·rw [if_pos g];exact .inl rfl
  ·rw [if_neg (by omega)];have:=s1 (i+1) (by omega) (by omega);exact .inr ⟨s (i+1) - 1,rfl,by omega,g2,g3⟩
 ·rw [ag i (by omega)] at e ⊢;rw [ag j hj] at e;by_cases c:s (i+1)=tk.length+(i+1)
  ·rw [if_pos c]
  ·exfalso;rw [if_neg c] at e;have i1:=s1 (i+1) (by omega) (by omega);have j1:=s1 (j+1) (by omega) (by omega);by_cases c2:s (j+1)=tk.length+(j+1)
   ·rw [if_pos c2] at e;omega
   ·rw [if_neg c2] at e;have:=s2 (i+1) (j+1) (by omega) (by omega) (by omega) (by omega) (by omega);omega
 ·rw [s3,wv bm rs a al];refine cT _ fun x x1 x2=>?_;have hx:=ag (x - 1) (by omega);rw [show x - 1+1=x by omega] at hx;rw [hx];rcases shape x x1 x2 with ⟨g,g2⟩ | ⟨g1,_,_,g2⟩
  ·rw [if_pos g,if_pos rfl,g2]
  ·rw [if_neg (by omega),if_neg (by omega),Int.toNat_natCast,g2]
end F
end
end Go.Proofs.YtcjagpfbhnmggaaGreatDoor
