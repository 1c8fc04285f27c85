/- Parts of the proof. -/
import Derived.Test.YtcjagpfbhnmggaaGreatDoorBd3
import Derived.Maps.AppendAt
namespace Go.Proofs.YtcjagpfbhnmggaaGreatDoor
namespace Sym
open Go.RowKit
section
variable {cod:Nat→aO} {P:Program} {env:Env} {N:Nat}
theorem Qi {v:Value} (h:v.oneCell'=true):v.cells=#[v]:=by
 cases v<;>first | rfl | (simp [Value.oneCell'] at h)
theorem mf {x:SV} {v:Value} (h:aS env N x v) (h1:x.cells.all Cell.one=true):ct env N x.cells v.cells.toList:=by
 cases x with
 | c x=>
   simp only [SV.cells,List.all_cons,List.all_nil,Bool.and_true] at h1;rw [Qi (DY h1 h)]
   exact .cons h .nil
 | agg cs=>
   obtain ⟨vs,rfl,hv⟩:=h
   exact hv
 | aP l=>simp [SV.cells,Cell.one] at h1
theorem lV (v:Value):bZ env N (Cell.ofValue v) v:=by
 unfold Cell.ofValue;split
 ·rfl
 ·rfl
 ·rfl
 ·rfl
 ·exact ⟨by simp,rfl⟩
 ·rfl
theorem u5 (v:Value):aS env N (SV.ofValue v) v:=by
 unfold SV.ofValue;split
 ·rename_i cs
  exact ⟨cs,rfl,by
   have:ct env N (cs.toList.map Cell.ofValue) cs.toList:=by
    induction cs.toList with
    | nil=>exact .nil
    | cons a l ih=>exact .cons (lV a) ih
   exact this⟩
 ·exact lV v
theorem c8 (v:Value):ct env N (SV.ofValue v).cells v.cells.toList:=by
 cases v with
 | agg cs=>obtain ⟨vs,h1,h2⟩:=u5 (env:=env) (N:=N) (.agg cs);cases h1;exact h2
 | _=>exact .cons (lV _) .nil
theorem uJ (k:Nat):∀(n:Nat) (cs:List Cell),cs.length=n*k→(chunks k n cs).flatten=cs
 | 0,cs,h=>by
   have:cs=[]:=List.eq_nil_of_length_eq_zero (by simpa using h)
   subst this;rfl
 | n+1,cs,h=>by
   rw [Nat.add_mul,Nat.one_mul] at h;rw [chunks,List.flatten_cons,uJ k n _ (by rw [List.length_drop];omega),List.take_append_drop]
theorem oW (k:Nat):∀(n:Nat) (cs:List Cell),(chunks k n cs).length=n
 | 0,_=>rfl
 | n+1,cs=>by rw [chunks,List.length_cons,oW k n]
theorem jV {c:aO} {n:Nat} {cs:List Cell} {l:List c.α} (h:xQ c n cs=some l):l.flatMap c.enc=cs∧l.length=n:=by
 unfold xQ at h;simp only at h;split at h
 ·rename_i hc;simp only [Option.some.injEq] at h;subst h;refine ⟨?_,by rw [List.length_map,oW]⟩;rw [List.flatMap_map]
  have:∀L:List (List Cell),L.all c.ok=true→L.flatMap (fun a=>c.enc (c.dec a))=L.flatten:=by
   intro L
   induction L with
   | nil=>intro _;rfl
   | cons a L ih=>
     intro hl;simp only [List.all_cons,Bool.and_eq_true] at hl;rw [List.flatMap_cons,List.flatten_cons,c.ck a hl.1,ih hl.2]
  rw [this _ hc.1,uJ _ _ _ hc.2]
 ·cases h
def kY (w:World) (size:Nat):HV:=⟨w.heap.size,0,size,undef,[]⟩
theorem ia (w:World) (size:Nat):(kY w size).addr 0 0=⟨w.heap.size,0,none⟩:=by simp [kY,HV.addr]
theorem wc {H:Heap cod} {w:World} {M:Nat→Prop} (G:Good env H w M) (hM:∀k,w.heap.size≤k→M k) {cs:List Cell} {vs:List Value} (ty:TypeId) (hc:ct env H.length cs vs):
 Good (env.set H.length (kY w 0)) (H++[.aF cs ty]) (w.alloc (.cells vs.toArray ty)) M:=
 G.push _ _ (by simp) (fun k hk=>heap_alloc_old w _ hk) ⟨rfl,hM _ (Nat.le_refl _),vs,heap_alloc_new w _,fN (by omega) (Env.l6 env _ _) hc⟩ (fun b hb=>by
  simp only [av.has,kY] at hb;omega)
theorem DR {H:Heap cod} {w:World} {M:Nat→Prop} (G:Good env H w M) (hM:∀k,w.heap.size≤k→M k) (u:Nat) (l:List (cod u).α) (ty:TypeId):
 Good (env.set H.length (kY w (cod u).size)) (H++[.arr u l ty]) (w.alloc (.cells (aN (cod u) l).toArray ty)) M:=
 G.push _ _ (by simp) (fun k hk=>heap_alloc_old w _ hk) ⟨rfl,rfl,hM _ (Nat.le_refl _),heap_alloc_new w _⟩ (fun b hb=>by
  simp only [av.has,kY] at hb;omega)
theorem NK (cfg:aT cod) {H:Heap cod} {w:World} {M:Nat→Prop} (G:Good env H w M) (hM:∀k,w.heap.size≤k→M k) {cs:List Cell} {vs:List Value} (t:TypeId) (hc:ct env H.length cs vs):
 ∃k,Good (env.set H.length (kY w k)) (H++[fB cfg t cs]) (w.alloc (.cells vs.toArray t)) M:=by
 unfold fB;split
 ·split
  ·exact ⟨0,wc G hM t hc⟩
  ·rename_i u _;split
   ·rename_i l hl;obtain ⟨h1,_⟩:=jV hl
    have hv:vs=aN (cod u) l:=by
     have:=cN (env:=env) (N:=H.length) (cs:=cs) (by rw [←h1];exact gD _ _) hc;rw [this,←h1];rfl
    subst hv;exact ⟨_,DR G hM u l t⟩
   ·exact ⟨0,wc G hM t hc⟩
 ·exact ⟨0,wc G hM t hc⟩
theorem By (off:Nat):∀(us:List Value) (k:Nat) (arr:List Value),off+k+us.length≤arr.length→
 (us.zipIdx k).foldl (fun (cs:Array Value) (p:Value×Nat)=>cs.setIfInBounds (off+p.2) p.1) arr.toArray=(arr.take (off+k)++(us++arr.drop (off+k+us.length))).toArray
 | [],k,arr,_=>by simp
 | u::us,k,arr,h=>by
   simp only [List.length_cons] at h;rw [List.zipIdx_cons,List.foldl_cons];have h1:arr.toArray.setIfInBounds (off+k) u=(arr.set (off+k) u).toArray:=by simp
   simp only [h1];rw [By off us (k+1) (arr.set (off+k) u) (by rw [List.length_set];omega)];congr 1
   have h2:(arr.set (off+k) u).take (off+(k+1))=arr.take (off+k)++[u]:=by
    rw [←Nat.add_assoc,List.take_succ_eq_append_getElem (by rw [List.length_set];omega),List.take_set_of_le (Nat.le_refl _)];simp
   have h3:(arr.set (off+k) u).drop (off+(k+1)+us.length)=arr.drop (off+k+(us.length+1)):=by
    rw [List.drop_set_of_lt (by omega)];congr 1;omega
   rw [h2,h3];simp
theorem lQ {place:Nat→Option (Nat×Nat)}:∀(parts:List (Nat×SV)) (qs:List (Nat×Value)) (cells xv:List Cell) (vs:List Value),pd place cells parts=some xv→ct env N cells vs→
 F2 (fun p q=>p.1=q.1∧aS env N p.2 q.2) parts qs→∃vs',Instr.fill place vs.toArray qs=some (List.toArray vs')∧ct env N xv vs'
 | _,_,cells,xv,vs,h,hv,.nil=>by
   simp only [pd,Option.some.injEq] at h;subst h
   exact ⟨vs,rfl,hv⟩
 | (i,x)::parts,(j,v)::qs,cells,xv,vs,h,hv,.cons hp ht=>by
   obtain ⟨rfl,hxv⟩:=hp;simp only [pd] at h
   cases z7:place i with
   | none=>rw [z7] at h;cases h
   | some pq=>
     obtain ⟨off,size⟩:=pq;rw [z7] at h;simp only at h;split at h
     ·cases h
     ·rename_i hc;rw [not_or,not_or] at hc;obtain ⟨h1,h2,h3⟩:=hc;have h1:x.cells.length=size:=by omega
      have h3:x.cells.all Cell.one=true:=by simpa using h3
      have hx:=mf hxv h3;have hlx:=cq hx;have hlv:=cq hv;have kt:v.cells.size=x.cells.length:=by rw [hlx];simp
      have Gl:=By off v.cells.toList 0 vs (by simp;omega);have Uw:=zo off hv hx;obtain ⟨vs',hr,Rw⟩:=lQ parts qs _ xv _ h Uw ht;refine ⟨vs',?_,Rw⟩;unfold Instr.fill;simp only [z7];rw [if_neg (by simp;omega)]
      have hz:v.cells.zipIdx.foldl (fun (cs:Array Value) (p:Value×Nat)=>cs.setIfInBounds (off+p.2) p.1) vs.toArray=(vs.take off++(v.cells.toList++vs.drop (off+v.cells.toList.length))).toArray:=by
       rw [←Array.foldl_toList,Array.toList_zipIdx];simpa using Gl
      rw [show (fun (cs:Array Value) (x:Value×Nat)=>match x with | (c,j)=>cs.setIfInBounds (off+j) c)=(fun (cs:Array Value) (p:Value×Nat)=>cs.setIfInBounds (off+p.2) p.1) from rfl,hz];exact hr
theorem Fz {t:TypeId} {parts:List (Nat×SV)} {qs:List (Nat×Value)} {cs:List Cell} (h:C4 P t parts=some cs) (hp:F2 (fun p q=>p.1=q.1∧aS env N p.2 q.2) parts qs):
 ∃vs,P.built t qs=some (List.toArray vs)∧ct env N cs vs:=by
 unfold C4 zeroCells NP at h;unfold Program.built
 cases hi:P.info? t with
 | none=>simp [hi] at h
 | some it=>
   cases hz:it.zero with
   | none=>simp [hi,hz] at h
   | some z=>
     cases hu:P.underlying t with
     | none=>simp [hi,hz,hu] at h
     | some d=>
       cases d with
       | array n e=>
         cases hie:P.info? e with
         | none=>simp [hi,hz,hu,hie] at h
         | some ie=>
           simp only [hi,hz,hu,hie,Option.bind_some,Option.map_some] at h ⊢;have:=lQ parts qs _ cs z.cells.toList h (c8 z) hp
           simpa using this
       | struct fs=>
         cases z7:fs.toList.mapM (fun f=>(P.info? f.type).map fun i=>(f.offset,i.size)) with
         | none=>simp [hi,hz,hu,z7] at h
         | some pl=>
           simp only [hi,hz,hu,z7,Option.bind_some,Option.map_some] at h ⊢;have:=lQ parts qs _ cs z.cells.toList h (c8 z) hp
           simpa using this
       | _=>simp [hi,hz,hu] at h
theorem bO {e:TypeId} (h:P.cellsOf e≠0):(P.info? e).isSome=true:=by
 unfold Program.cellsOf at h
 cases hi:P.info? e with
 | none=>simp [hi] at h
 | some i=>rfl
theorem jx (x:HV) (i m s:Nat) (he:x.fE=s):(x.addr i 0).add (m*s)=x.addr (i+m) 0:=by
 rw [dp];unfold HV.addr;rw [he,Nat.add_mul,Nat.zero_add,Nat.add_zero]
theorem kK {x:SV} {v:Value} {h i n:Nat} {t:Bool} (hs:mT x=some (h,i,n,t)) (hx:aS env N x v):
 h < N∧∃A c,v= .slice A n c∧n≤c∧c≤maxLen∧(t=true→c=n)∧(0 < n→A=some ((env h).addr i 0)):=by
 unfold mT at hs;split at hs
 ·simp only [Option.some.injEq,Prod.mk.injEq] at hs;obtain ⟨rfl,rfl,rfl,rfl⟩:=hs;exact hx
 ·simp only [Option.some.injEq,Prod.mk.injEq] at hs;obtain ⟨rfl,rfl,rfl,rfl⟩:=hs;obtain ⟨h1,h2,A,c,h3,h4,h5,h6⟩:=hx;exact ⟨h1,A,c,h3,h4,h5,(fun h=>by cases h),h6⟩
 ·cases hs
theorem lp {H:Heap cod} {w:World} {M:Nat→Prop} {h s:Nat} (G:Good env H w M) (he:(getObj H h).Bs=some s):(env h).fE=s:=by
 cases ho:getObj H h with
 | arr t l ty=>rw [ho] at he;simp only [av.Bs,Option.some.injEq] at he;rw [←he];exact (G.obj h _ (aE ho (by simp))).2.1
 | own t l ty=>rw [ho] at he;simp only [av.Bs,Option.some.injEq] at he;rw [←he];exact (G.obj h _ (aE ho (by simp))).2.1
 | aB t l=>rw [ho] at he;simp only [av.Bs,Option.some.injEq] at he;rw [←he];exact (G.obj h _ (aE ho (by simp))).1
 | cL t LL op=>rw [ho] at he;simp only [av.Bs,Option.some.injEq] at he;rw [←he];exact (G.obj h _ (aE ho (by simp))).1
 | cj t LL js cs ty tyr=>rw [ho] at he;simp only [av.Bs,Option.some.injEq] at he;rw [←he];exact (G.obj h _ (aE ho (by simp))).2.1
 | _=>rw [ho] at he;cases he
theorem vE {H:Heap cod} {w:World} {M:Nat→Prop} {t:TypeId} {x ix r:SV} {u v:Value} (h:(dw P H t x ix).ah r) (G:Good env H w M) (hx:aS env H.length x u) (hv:aS env H.length ix v):
 ∃gU,(Instr.indexAt t u v).run P w= .ok gU w∧aS env H.length r gU:=by
 unfold dw at h;split at h
 ·rename_i n e kk k ht;have hk:v= .int kk k:=hv;subst hk;split at h
  ·rename_i hh i o;obtain ⟨cI,rfl⟩:=hx
   have run:∀m:Nat,k=m→m < n→(P.info? e).isSome=true→(Instr.indexAt t (.pointer (some ((env hh).addr i o))) (.int kk k)).run P w= .ok (.pointer (some (((env hh).addr i o).add (m*P.cellsOf e)))) w:=by
    intro m hm hmn hi;subst hm;have hc:(0:Int)≤(m:Int)∧(m:Int) < (n:Int):=⟨by omega,by omega⟩;simp [Instr.indexAt,run_underlying ht,Instr.sureAddr,asIntOf,hc,bL hi];intro Kf;omega
   split at h
   ·rename_i u' l ty ho;have he:(env hh).fE=(cod u').size:=lp G (by rw [ho];rfl);split at h
    ·rename_i hc;obtain ⟨rfl,pe⟩:=hc;rw [T.ak,T.ad] at h;obtain ⟨hb,rfl⟩:=h;refine ⟨_,run k.toNat (by omega) (by omega) (bO (by have:=(cod u').pos;omega)),cI,?_⟩;rw [pe,jx _ _ _ _ he]
    ·split at h
     ·rename_i hc;obtain ⟨rfl,pe,h0⟩:=hc;rw [T.ak,T.ad] at h;obtain ⟨hb,rfl⟩:=h
      ·refine ⟨_,run k.toNat (by omega) (by omega) (bO h0),cI,?_⟩;have hd:P.cellsOf e=P.cellsOf e / (cod u').size*(cod u').size:=(Nat.div_mul_cancel (Nat.dvd_of_mod_eq_zero pe)).symm;have:k.toNat*P.cellsOf e=k.toNat*(P.cellsOf e / (cod u').size)*(cod u').size:=by rw [Nat.mul_assoc,←hd]
       rw [this,jx _ _ _ _ he]
     ·exact h.elim
   ·split at h
    ·rename_i m;split at h
     ·rename_i hc;rw [T.ad] at h;subst h;exact ⟨_,run m rfl hc.1 (bO hc.2),cI,by rw [dp]⟩
     ·exact h.elim
    ·exact h.elim
   ·split at h
    ·rename_i m;split at h
     ·rename_i hc;rw [T.ad] at h;subst h;exact ⟨_,run m rfl hc.1 (bO hc.2),cI,by rw [dp]⟩
     ·exact h.elim
    ·exact h.elim
   ·rename_i pre u' m l post ty ho;split at h
    ·rename_i hc;obtain ⟨rfl,rfl,pe⟩:=hc;rw [T.ak,T.ad] at h;obtain ⟨hb,rfl⟩:=h;have he:(env hh).fE=(cod u').size:=(G.obj hh _ (aE ho (by simp))).2.1;refine ⟨_,run k.toNat (by omega) (by omega) (bO (by have:=(cod u').pos;omega)),cI,?_⟩;rw [pe,dp];unfold HV.addr;rw [he,Nat.zero_mul,Nat.zero_add,Nat.add_comm pre.length]
    ·exact h.elim
   ·rename_i ho;have he:(env hh).fE=1:=lp G (by rw [ho];rfl);split at h
    ·rename_i hc;obtain ⟨rfl,pe⟩:=hc;rw [T.ak,T.ad] at h;obtain ⟨hb,rfl⟩:=h;refine ⟨_,run k.toNat (by omega) (by omega) (bO (by omega)),cI,?_⟩;rw [pe,jx _ _ _ _ he]
    ·exact h.elim
   ·exact h.elim
  ·rename_i a;have hu:u= .pointer (some a):=hx;subst hu;split at h
   ·rename_i pe;rw [T.ak,T.ad] at h;obtain ⟨hb,rfl⟩:=h;refine ⟨.pointer (some (a.add k.toNat)),?_,rfl⟩;have hc:(0:Int)≤k∧k < (n:Int):=hb;have hi:=bO (P:=P) (e:=e) (by omega);simp [Instr.indexAt,run_underlying ht,Instr.sureAddr,asIntOf,hc,bL hi,pe]
   ·exact h.elim
  ·exact h.elim
 ·rename_i e kk k ht;have hk:v= .int kk k:=hv;subst hk;split at h
  ·rename_i hh i n tt hs;obtain ⟨cI,A,c,rfl,vB,mA,_,hA⟩:=kK hs hx
   have fin:∀s':Nat,0 < s'→(getObj H hh).Bs=some s'→(if P.cellsOf e=s' then T.aa (0≤k∧k < n) (T.ret (SV.c (.ptr hh (i+k.toNat) 0))) else T.fail:T SV).ah r→
    ∃gU,(Instr.indexAt t (.slice A n c) (.int kk k)).run P w= .ok gU w∧aS env H.length r gU:=by
    intro s' hs0 he h;have yj:=lp G he;split at h
    ·rename_i pe;rw [T.ak,T.ad] at h;obtain ⟨hb,rfl⟩:=h;rw [hA (by omega)];have hi:=bO (P:=P) (e:=e) (by omega);refine ⟨.pointer (some (((env hh).addr i 0).add (k.toNat*P.cellsOf e))),?_,cI,by rw [pe,jx _ _ _ _ yj]⟩;simp [Instr.indexAt,run_underlying ht,asIntOf,hb,bL hi]
    ·exact h.elim
   have cel:∀m:Nat,k=m→m < n→(P.info? e).isSome=true→(Instr.indexAt t (.slice A n c) (.int kk k)).run P w= .ok (.pointer (some (((env hh).addr i 0).add (m*P.cellsOf e)))) w:=by
    intro m hm hmn hi;subst hm;have hb:(0:Int)≤(m:Int)∧(m:Int) < (n:Int):=⟨by omega,by omega⟩;rw [hA (by omega)];simp [Instr.indexAt,run_underlying ht,asIntOf,hb,bL hi];intro Kf;omega
   split at h
   ·rename_i u' l ty ho;exact fin _ (cod u').pos (by rw [ho];rfl) h
   ·rename_i u' l ty ho;exact fin _ (cod u').pos (by rw [ho];rfl) h
   ·rename_i u' l ho;exact fin _ (cod u').pos (by rw [ho];rfl) h
   ·rename_i u' LL op ho;exact fin 1 (by omega) (by rw [ho];rfl) h
   ·rename_i u' LL js cs ty tyr ho;exact fin 1 (by omega) (by rw [ho];rfl) h
   ·split at h
    ·rename_i m;split at h
     ·rename_i hc;rw [T.ad] at h;subst h;exact ⟨_,cel m rfl hc.1 (bO hc.2),cI,by rw [dp,Nat.zero_add]⟩
     ·exact h.elim
    ·exact h.elim
   ·split at h
    ·rename_i m;split at h
     ·rename_i hc;rw [T.ad] at h;subst h;exact ⟨_,cel m rfl hc.1 (bO hc.2),cI,by rw [dp,Nat.zero_add]⟩
     ·exact h.elim
    ·exact h.elim
   ·split at h
    ·rename_i m;split at h
     ·rename_i hc;rw [T.ad] at h;subst h;exact ⟨_,cel m rfl hc.1 (bO hc.2),cI,by rw [dp,Nat.zero_add]⟩
     ·exact h.elim
    ·exact h.elim
   ·exact h.elim
  ·exact h.elim
 ·exact h.elim
theorem OG (s:List UInt8) (k:Nat) (hk:k < s.length):(⟨s.toArray⟩:ByteArray)[k]? =some (s.getD k 0):=by
 have h:k < (⟨s.toArray⟩:ByteArray).size:=by rw [gV];exact hk
 rw [getElem?_pos (⟨s.toArray⟩:ByteArray) k h];congr 1;show s.toArray[k]=_;simp [List.getD,List.getElem?_eq_getElem hk]
theorem Gw (cfg:aT cod) {t:TypeId} {x ix r:SV} {u v:Value} (h:(Kj cfg t x ix).ah r) (hx:aS env N x u) (hv:aS env N ix v) (w:World):
 ∃gU,(Instr.index t u v).run cfg.P w= .ok gU w∧aS env N r gU:=by
 unfold Kj at h;split at h
 ·rename_i n e cs kk k ht;obtain ⟨vs,rfl,ym⟩:=hx;have hk:v= .int kk k:=hv;subst hk;split at h
  ·rename_i hue
   have run:∀m:Nat,k=m→m < n→∀gU,(part e vs (m*cfg.P.cellsOf e)).run cfg.P w= .ok gU w→(Instr.index t (.agg vs) (.int kk k)).run cfg.P w= .ok gU w:=by
    intro m hm hmn gU acK;subst hm;have hc:(0:Int)≤(m:Int)∧(m:Int) < (n:Int):=⟨by omega,by omega⟩;simp only [Instr.index,asIntOf,Sem.run_bind,Sem.run_pure,Result.andThen_ok,run_underlying ht,hc,and_self,if_true,bL (jX hue),Int.toNat_natCast];exact acK
   split at h
   ·rename_i u' _;split at h
    ·rename_i pe;split at h
     ·rename_i l hl;rw [T.ak] at h;obtain ⟨hb,h⟩:=h;obtain ⟨hfl,hll⟩:=jV hl;have iI:cs.all Cell.scalar=true:=by rw [←hfl];exact gD _ _
      have hvv:vs.toList=aN (cod u') l:=by rw [cN iI ym,←hfl];rfl
      have fx:k.toNat < l.length:=by omega
      have hd:=oL (cod u') l k.toNat fx;have kt:=(cod u').size_eq (l.getD k.toNat (cod u').d);unfold BR at h;split at h
      ·rename_i ha;rw [T.ad] at h;subst h;refine ⟨.agg (((cod u').enc (l.getD k.toNat (cod u').d)).map Cell.val).toArray,run k.toNat (by omega) (by omega) _ ?_,⟨_,rfl,?_⟩⟩
       ·have:=rK e vs.toList (k.toNat*cfg.P.cellsOf e) w hue (fun hh=>by rw [ha] at hh;cases hh);rw [Array.toArray_toList,hvv,pe,hd] at this;rw [pe,this];simp only [eh,ha,if_true];congr 3;rw [List.take_append,List.length_map,kt,Nat.sub_self,List.take_zero,List.append_nil,List.take_of_length_le (by rw [List.length_map,kt];exact Nat.le_refl _)]
       ·rw [List.drop_zero,List.take_of_length_le (by rw [kt,pe];exact Nat.le_refl _)];exact gd ((cod u').l3 _)
      ·rename_i ha;split at h
       ·rename_i c hc;rw [T.ad] at h;subst h;refine ⟨c.val,run k.toNat (by omega) (by omega) _ ?_,zh (List.all_eq_true.1 ((cod u').l3 _) c (List.mem_of_getElem? hc))⟩;unfold part;simp only [Sem.run_bind,ga e w hue,Result.andThen_ok,ha,Bool.false_eq_true,if_false]
        have hg:vs[k.toNat*cfg.P.cellsOf e]? =some c.val:=by
         have:=r9 (cod u') l k.toNat 0 fx (cod u').pos;rw [hc,Nat.add_zero,←hvv,←pe] at this;simpa using this
        rw [hg];rfl
       ·exact h.elim
     ·exact h.elim
    ·exact h.elim
   ·split at h
    ·rename_i m;split at h
     ·rename_i hc;obtain ⟨gU,h1,h2⟩:=yJ h ym hue;have:=h1 w;rw [Array.toArray_toList] at this;exact ⟨gU,run m rfl hc gU this,h2⟩
     ·exact h.elim
    ·exact h.elim
  ·exact h.elim
 ·rename_i s kk k ht;have hu:u= .string ⟨s.toArray⟩:=hx;have hk:v= .int kk k:=hv;subst hu hk;rw [T.ak,T.ad] at h;obtain ⟨hb,rfl⟩:=h;have hk:k.toNat < s.length:=by omega
  have hg:=OG s k.toNat hk;refine ⟨.int .u8 (s.getD k.toNat 0).toNat,?_,rfl⟩;simp [Instr.index,asIntOf,run_underlying ht,hb.1,hg]
 ·exact h.elim
theorem kh (s:List UInt8) (a b:Nat):(⟨s.toArray⟩:ByteArray).extract a b=⟨((s.drop a).take (b - a)).toArray⟩:=by
 apply ByteArray.ext;simp
theorem dI (w:World) (k:IntKind) (i:Int) (y:Nat) (c:BoundsCode) (h:0≤i∧i≤y):(Instr.sliceBound (.int k i) y c).run P w= .ok i.toNat w:=by
 simp [Instr.sliceBound,asIntOf,h]
theorem TM {H:Heap cod} {hh:Nat} {e:TypeId} (rr:(getObj H hh).Bs=some (P.cellsOf e)):(P.info? e).isSome=true:=by
 have:P.cellsOf e≠0:=by
  intro h0
  cases ho:getObj H hh with
  | arr t l ty=>rw [ho] at rr;simp only [av.Bs,Option.some.injEq] at rr;have:=(cod t).pos;omega
  | own t l ty=>rw [ho] at rr;simp only [av.Bs,Option.some.injEq] at rr;have:=(cod t).pos;omega
  | aB t l=>rw [ho] at rr;simp only [av.Bs,Option.some.injEq] at rr;have:=(cod t).pos;omega
  | cL t LL op=>rw [ho] at rr;simp only [av.Bs,Option.some.injEq] at rr;omega
  | cj t LL js cs ty tyr=>rw [ho] at rr;simp only [av.Bs,Option.some.injEq] at rr;omega
  | _=>rw [ho] at rr;cases rr
 exact bO this
theorem EJ {H:Heap cod} {w:World} {M:Nat→Prop} {t e:TypeId} {n:Nat} {x r:SV} {lo:Option SV} {u:Value} {Rz Ul mx':Option Value} (ht:P.underlying t=some (.array n e)) (h:(ug P H n e x lo).ah r) (G:Good env H w M)
 (hx:aS env H.length x u) (YU:∀y,lo=some y→∃v,Rz=some v∧aS env H.length y v) (Ke:lo=none→Rz=none) (Uk:Ul=none) (DB:mx'=none):∃gU,(Instr.sliceAt t u Rz Ul mx').run P w= .ok gU w∧aS env H.length r gU:=by
 unfold ug at h;subst Uk DB;split at h
 ·rename_i hh i;obtain ⟨cI,rfl⟩:=hx;split at h
  ·rename_i hc;obtain ⟨rr,hn⟩:=hc;have he:=lp G rr;have hi:=TM rr;split at h
   ·rw [T.ad] at h;subst h;rw [Ke rfl];refine ⟨.slice (some (if n=0 then (env hh).addr i 0 else ((env hh).addr i 0).add (0*P.cellsOf e))) n n,?_,cI,_,_,rfl,Nat.le_refl _,by unfold maxLen;omega,fun _=>rfl,fun hp=>?_⟩
    ·simp [Instr.sliceAt,run_underlying ht,Instr.sureAddr,Instr.sliceBounds,bL hi]
    ·rw [if_neg (by omega)];simp [Addr.add]
   ·rename_i ka a;obtain ⟨v,rfl,hv⟩:=YU _ rfl;have Y2:v= .int ka a:=hv;subst Y2;rw [T.ak,T.ad] at h;obtain ⟨hb,rfl⟩:=h;have h1:(0:Int)≤a∧a≤n:=hb;refine ⟨.slice (some (if n=a.toNat then (env hh).addr i 0 else ((env hh).addr i 0).add (a.toNat*P.cellsOf e))) (n - a.toNat) (n - a.toNat),?_,cI,_,_,rfl,Nat.le_refl _,by unfold maxLen;omega,fun _=>rfl,fun hp=>?_⟩
    ·simp [Instr.sliceAt,run_underlying ht,Instr.sureAddr,Instr.sliceBounds,dI _ _ _ _ _ h1,bL hi]
    ·rw [if_neg (by omega),jx _ _ _ _ he]
   ·exact h.elim
  ·exact h.elim
 ·exact h.elim
theorem Hx {H:Heap cod} {w:World} {M:Nat→Prop} {t:TypeId} {x r:SV} {lo hi mx:Option SV} {u:Value} {Rz Ul mx':Option Value} (h:(jM P H t x lo hi mx).ah r) (G:Good env H w M)
 (hx:aS env H.length x u) (YU:∀y,lo=some y→∃v,Rz=some v∧aS env H.length y v) (Ke:lo=none→Rz=none) (hhi:∀y,hi=some y→∃v,Ul=some v∧aS env H.length y v) (Uk:hi=none→Ul=none)
 (hmx:∀y,mx=some y→∃v,mx'=some v∧aS env H.length y v) (DB:mx=none→mx'=none):∃gU,(Instr.sliceAt t u Rz Ul mx').run P w= .ok gU w∧aS env H.length r gU:=by
 unfold jM at h;split at h
 ·rename_i ht;split at h
  ·exact EJ ht h G hx YU Ke (Uk rfl) (DB rfl)
  ·exact h.elim
 ·rename_i ht;split at h
  ·rename_i s kb b;have hu:u= .string ⟨s.toArray⟩:=hx;obtain ⟨v,rfl,hv⟩:=hhi _ rfl;have UC:v= .int kb b:=hv;rw [Ke rfl,DB rfl];subst hu UC;rw [T.ak,T.ad] at h;obtain ⟨hb,rfl⟩:=h;refine ⟨_,by simp [Instr.sliceAt,run_underlying ht,Instr.slice,Instr.sliceBounds,gV,dI,hb];rfl,?_⟩;simp only [kh,aS,fi,bZ,List.drop_zero,Nat.sub_zero]
  ·rename_i s ka a;have hu:u= .string ⟨s.toArray⟩:=hx;obtain ⟨v,rfl,hv⟩:=YU _ rfl;have Y2:v= .int ka a:=hv;rw [Uk rfl,DB rfl];subst hu Y2;rw [T.ak,T.ad] at h;obtain ⟨hb,rfl⟩:=h;refine ⟨_,by simp [Instr.sliceAt,run_underlying ht,Instr.slice,Instr.sliceBounds,gV,dI,hb];rfl,?_⟩;simp only [kh,aS,fi,bZ];rw [List.take_of_length_le (by rw [List.length_drop];exact Nat.le_refl _)]
  ·rename_i s ka a kb b;have hu:u= .string ⟨s.toArray⟩:=hx;obtain ⟨v,rfl,hv⟩:=YU _ rfl;have Y2:v= .int ka a:=hv;obtain ⟨v',rfl,Nr⟩:=hhi _ rfl;have UC:v'= .int kb b:=Nr;rw [DB rfl];subst hu Y2 UC;rw [T.ak,T.ad] at h;obtain ⟨hb,rfl⟩:=h;have h1:(0:Int)≤b∧b≤s.length:=⟨by omega,by omega⟩;have h2:(0:Int)≤a∧a≤(b.toNat:Int):=⟨by omega,by omega⟩;refine ⟨.string ((⟨s.toArray⟩:ByteArray).extract a.toNat b.toNat),?_,by rw [kh];rfl⟩;simp [Instr.sliceAt,run_underlying ht,Instr.slice,Instr.sliceBounds,gV,dI _ _ _ _ _ h1,dI _ _ _ _ _ h2]
  ·exact h.elim
 ·rename_i e ht;split at h
  ·split at h
   ·rename_i kb b km m _;split at h
    ·rename_i hi;have hu:u= .slice none 0 0:=hx;obtain ⟨v,rfl,hv⟩:=hhi _ rfl;have UC:v= .int kb b:=hv;obtain ⟨v',rfl,Nr⟩:=hmx _ rfl;have hvm:v'= .int km m:=Nr;rw [Ke rfl];subst hu UC hvm;rw [T.ak,T.ad] at h;obtain ⟨⟨rfl,rfl⟩,rfl⟩:=h;refine ⟨.slice none 0 0,?_,rfl⟩;have h1:(0:Int)≤0∧(0:Int)≤((0:Nat):Int):=⟨by omega,by omega⟩;simp [Instr.sliceAt,run_underlying ht,Instr.slice,Instr.sliceBounds,dI _ _ _ _ _ h1,bL hi]
    ·exact h.elim
   ·exact h.elim
  ·rename_i hh i n tt hs;obtain ⟨cI,A,c,rfl,vB,mA,htc,hA⟩:=kK hs hx;split at h
   ·rename_i rr;have he:=lp G rr
    have hi:(P.info? e).isSome=true:=by
     have:P.cellsOf e≠0:=by
      intro h0
      cases ho:getObj H hh with
      | arr t l ty=>rw [ho] at rr;simp only [av.Bs,Option.some.injEq] at rr;have:=(cod t).pos;omega
      | own t l ty=>rw [ho] at rr;simp only [av.Bs,Option.some.injEq] at rr;have:=(cod t).pos;omega
      | aB t l=>rw [ho] at rr;simp only [av.Bs,Option.some.injEq] at rr;have:=(cod t).pos;omega
      | cL t LL op=>rw [ho] at rr;simp only [av.Bs,Option.some.injEq] at rr;omega
      | cj t LL js cs ty tyr=>rw [ho] at rr;simp only [av.Bs,Option.some.injEq] at rr;omega
      | _=>rw [ho] at rr;cases rr
     exact bO this
    split at h
    ·rename_i kb b;obtain ⟨v,rfl,hv⟩:=hhi _ rfl;have UC:v= .int kb b:=hv;rw [Ke rfl,DB rfl];subst UC;rw [T.ak,T.ad] at h;obtain ⟨hb,rfl⟩:=h;have h1:(0:Int)≤b∧b≤c:=⟨by omega,by omega⟩;refine ⟨.slice (if c=0 then A else A.map (·.add (0*P.cellsOf e))) b.toNat c,?_,cI,_,c,rfl,by omega,mA,(fun h=>by cases h),fun hp=>?_⟩
     ·simp [Instr.sliceAt,run_underlying ht,Instr.slice,Instr.sliceBounds,dI _ _ _ _ _ h1,bL hi]
     ·rw [if_neg (by omega),hA (by omega)];simp [Addr.add]
    ·rename_i ka a;obtain ⟨v,rfl,hv⟩:=YU _ rfl;have Y2:v= .int ka a:=hv;rw [Uk rfl,DB rfl];subst Y2;rw [T.ak,T.ad] at h;obtain ⟨hb,rfl⟩:=h;have h1:(0:Int)≤a∧a≤n:=⟨by omega,by omega⟩;refine ⟨.slice (if c=a.toNat then A else A.map (·.add (a.toNat*P.cellsOf e))) (n - a.toNat) (c - a.toNat),?_,cI,_,_,rfl,by omega,by omega,fun h=>by have:=htc h;omega,fun hp=>?_⟩
     ·simp [Instr.sliceAt,run_underlying ht,Instr.slice,Instr.sliceBounds,dI _ _ _ _ _ h1,bL hi]
     ·rw [if_neg (by omega),hA (by omega),Option.map_some,jx _ _ _ _ he]
    ·rename_i ka a kb b;obtain ⟨v,rfl,hv⟩:=YU _ rfl;have Y2:v= .int ka a:=hv;obtain ⟨v',rfl,Nr⟩:=hhi _ rfl;have UC:v'= .int kb b:=Nr;rw [DB rfl];subst Y2 UC;rw [T.ak,T.ad] at h;obtain ⟨hb,rfl⟩:=h;have h1:(0:Int)≤b∧b≤c:=⟨by omega,by omega⟩;have h2:(0:Int)≤a∧a≤(b.toNat:Int):=⟨by omega,by omega⟩;refine ⟨.slice (if c=a.toNat then A else A.map (·.add (a.toNat*P.cellsOf e))) (b.toNat - a.toNat) (c - a.toNat),?_,cI,_,_,rfl,by omega,by omega,(fun h=>by cases h),fun hp=>?_⟩
     ·simp [Instr.sliceAt,run_underlying ht,Instr.slice,Instr.sliceBounds,dI _ _ _ _ _ h1,dI _ _ _ _ _ h2,bL hi]
     ·rw [if_neg (by omega),hA (by omega),Option.map_some,jx _ _ _ _ he]
    ·rename_i kb b km m;obtain ⟨v,rfl,hv⟩:=hhi _ rfl;have UC:v= .int kb b:=hv;obtain ⟨v',rfl,Nr⟩:=hmx _ rfl;have hvm:v'= .int km m:=Nr;rw [Ke rfl];subst UC hvm;rw [T.ak,T.ad] at h;obtain ⟨hb,rfl⟩:=h;obtain ⟨Ps,Ng,rfl⟩:=hb;have h1:(0:Int)≤m∧m≤c:=⟨by omega,by omega⟩;have h2:(0:Int)≤m∧m≤(m.toNat:Int):=⟨by omega,by omega⟩;refine ⟨.slice (if m.toNat=0 then A else A.map (·.add (0*P.cellsOf e))) m.toNat m.toNat,?_,cI,_,_,rfl,Nat.le_refl _,by omega,fun _=>rfl,fun hp=>?_⟩
     ·simp [Instr.sliceAt,run_underlying ht,Instr.slice,Instr.sliceBounds,dI _ _ _ _ _ h1,dI _ _ _ _ _ h2,bL hi]
     ·rw [if_neg (by omega),hA (by omega)];simp [Addr.add]
    ·exact h.elim
   ·exact h.elim
 ·exact h.elim
def kf (N:Nat) (kill:List Nat) (env aK:Env):Prop:=∀h,h < N→h∉kill→aK h=env h
theorem eH.but {env aK:Env} (h:eH N env aK) (k:List Nat):kf N k env aK:=fun i hi _=>h i hi
theorem eV {ks:List Nat} {N':Nat} {aK:Env} (hN:N≤N') (he:kf N ks env aK) {c:Cell} {v:Value} (hr:bZ env N c v):bZ aK N' (c.bR ks) v:=by
 unfold Cell.bR;split
 ·trivial
 ·rename_i hc;have hn:∀k∈c.hs,k∉ks:=fun k hk e=>hc (List.any_eq_true.2 ⟨k,hk,by simpa using e⟩);have yj:∀k∈c.hs,k < N→aK k=env k:=fun k hk hl=>he k hl (hn k hk);cases c<;>simp only [bZ,Cell.hs] at* <;>try exact hr
  case ptr k i o=>exact ⟨by omega,by rw [yj k (by simp) hr.1];exact hr.2⟩
  case ai k i n t=>
   obtain ⟨h1,A,c,h2,h3,h4,h5,h6⟩:=hr;exact ⟨by omega,A,c,h2,h3,h4,h5,by rw [yj k (by simp) h1];exact h6⟩
  case own k n=>
   obtain ⟨h1,h2,A,c,h3,h4,h5,h6⟩:=hr;exact ⟨by omega,by rw [yj k (by simp) h1];exact h2,A,c,h3,h4,h5,by rw [yj k (by simp) h1];exact h6⟩
  case fn f dC=>
   obtain ⟨h1,rfl⟩:=hr;refine ⟨fun c hc=>by have:=h1 c hc;omega,?_⟩;congr 2;exact List.map_congr_left fun c hc=>by rw [yj c.1 (List.mem_map.2 ⟨c,hc,rfl⟩) (h1 c hc)]
theorem jf {f:Cell→Cell} {aK:Env} {N':Nat} (hf:∀c v,bZ env N c v→bZ aK N' (f c) v) {cs:List Cell} {vs:List Value} (h:ct env N cs vs):ct aK N' (cs.map f) vs:=by
 have:=TO (f:=f) (g:=id) (S:=bZ aK N') hf h;rw [List.map_id] at this;exact this
theorem Rg {f:Cell→Cell} {aK:Env} {N':Nat} (hf:∀c v,bZ env N c v→bZ aK N' (f c) v) {x:SV} {v:Value} (h:fi env N x v):fi aK N' (x.aX f) v:=by
 cases x with
 | c x=>exact hf _ _ h
 | agg cs=>obtain ⟨vs,h1,h2⟩:=h;exact ⟨vs,h1,jf hf h2⟩
 | aP l=>exact h.elim
theorem iH {f:Cell→Cell} {aK:Env} {N':Nat} (hf:∀c v,bZ env N c v→bZ aK N' (f c) v) {x:SV} {v:Value} (h:aS env N x v):aS aK N' (x.aX f) v:=by
 cases x with
 | c x=>exact hf _ _ h
 | agg cs=>exact Rg (x:=.agg cs) hf h
 | aP l=>
   obtain ⟨vs,h1,h2⟩:=h;refine ⟨vs,h1,?_⟩
   have:∀{l:List SV} {vs:List Value},F2 (fi env N) l vs→F2 (fi aK N') (l.map fun | .c x=>.c (f x) | .agg cs=>.agg (cs.map f) | v=>v) vs:=by
    intro l vs hl
    induction hl with
    | nil=>exact .nil
    | @cons a b l m Nf _ ih=>
      refine .cons ?_ ih
      cases a with
      | c x=>exact hf _ _ Nf
      | agg cs=>obtain ⟨vs,h1,h2⟩:=Nf;exact ⟨vs,h1,jf hf h2⟩
      | aP l=>exact Nf.elim
   exact this h2
theorem dx {f:Cell→Cell} {aK:Env} {N':Nat} (hf:∀c v,bZ env N c v→bZ aK N' (f c) v) {x:HV} {w:World} {M:Nat→Prop} {o:av cod} (h:bH env N x w M o):bH aK N' x w M (o.aX f):=by
 cases o<;>simp only [bH,av.aX] at h ⊢ <;>try exact h
 ·obtain ⟨h1,h2,vs,h3,h4⟩:=h;exact ⟨h1,h2,vs,h3,jf hf h4⟩
 ·obtain ⟨h1,h2,vs,h3,h4⟩:=h;exact ⟨h1,h2,vs,h3,jf hf h4⟩
 ·obtain ⟨h1,h2,vs,h3,h4⟩:=h;exact ⟨h1,h2,vs,h3,jf hf h4⟩
 ·obtain ⟨h1,vs,h2,h3,h4,h5,h6,h7⟩:=h;refine ⟨h1,vs,h2,h3,h4,h5,h6,fun p hp=>?_⟩;obtain ⟨q,hq,rfl⟩:=Option.map_eq_some_iff.1 hp;obtain ⟨v,hv,hc⟩:=h7 q hq;exact ⟨v,hv,hf _ _ hc⟩
 ·obtain ⟨h1,h2,h3,⟨vs,h4,h5,h6⟩,h7⟩:=h;refine ⟨h1,h2,⟨h3.1,by rw [List.length_map];exact h3.2⟩,⟨vs,h4,h5,fun q j c hj hc=>?_⟩,h7⟩;rw [List.getElem?_map] at hc;obtain ⟨c0,YO,rfl⟩:=Option.map_eq_some_iff.1 hc;obtain ⟨v,hv,hr⟩:=h6 q j c0 hj YO;exact ⟨v,hv,hf _ _ hr⟩
theorem cu (f:Cell→Cell) (o:av cod) (x:HV) (b:Nat):(o.aX f).has x b↔o.has x b:=by cases o<;>rfl
theorem fT (f:Cell→Cell) (o:av cod):(o.aX f).wr=o.wr:=by cases o<;>rfl
theorem j7 (f:Cell→Cell) (o:av cod):(o.aX f).bQ=o.bQ:=by cases o<;>rfl
theorem Good.ads {H:Heap cod} {w w':World} {M:Nat→Prop} {h:Nat} {u u':Nat} {l:List (cod u).α} {l':List (cod u').α} {ty mw:TypeId} (G:Good env H w M) (ho:H[h]? =some (.own u l ty)) (hs:w.heap.size≤w'.heap.size)
 (hk:∀k,k < w.heap.size→some k≠(env h).val.ownBlock→w'.heap[k]? =w.heap[k]?) (x':HV) (jS:bH (env.set h x') H.length x' w' M (.own u' l' mw)) (hb:x'.val.ownBlock=(env h).val.ownBlock∨x'.val.ownBlock=some w.heap.size):
 Good (env.set h x') ((H.set h (.own u' l' mw)).map (av.aX (Cell.bR [h]))) w' M:=by
 have cI:h < H.length:=(List.getElem?_eq_some_iff.1 ho).1;have mz:kf H.length [h] env (env.set h x'):=fun q _ bP=>Env.aD _ _ (by rintro rfl;exact bP (by simp))
 have aL:∀k a,((H.set h (.own u' l' mw)).map (av.aX (Cell.bR [h])))[k]? =some a→(k≠h∧∃b,H[k]? =some b∧a=b.aX (Cell.bR [h]))∨(k=h∧a= .own u' l' mw):=by
  intro k a ha;rw [List.getElem?_map] at ha;by_cases e:k=h
  ·subst e;rw [List.getElem?_set_self cI] at ha;simp only [Option.map_some,Option.some.injEq] at ha;exact .inr ⟨rfl,ha.symm⟩
  ·rw [List.getElem?_set_ne (by omega)] at ha;obtain ⟨b,h1,h2⟩:=Option.map_eq_some_iff.1 ha;exact .inl ⟨e,b,h1,h2.symm⟩
 refine ⟨fun k a ha=>?_,fun k k' a a' c bP ha Pq uS hc cY=>?_,G.sr.bG (fun p _ hl hn=>hk _ hl fun e=>hn ((G.obj h _ ho).2.2.2.1 _ e.symm)) fun _ _ _ h=>h⟩
 ·rw [List.length_map,List.length_set];rcases aL k a ha with ⟨bP,b,h1,rfl⟩ | ⟨rfl,rfl⟩
  ·rw [Env.aD _ _ bP];refine dx (fun c v Rq=>eV (Nat.le_refl _) mz Rq) (ff (G.obj k b h1) hs fun c hc=>?_);have cI:=bi (G.obj k b h1) hc;refine hk c cI fun e=>?_;exact G.sep h k _ b c (Ne.symm bP) ho h1 rfl e.symm hc
  ·rw [Env.aU];exact jS
 ·rcases aL k a ha with ⟨h1,b,h2,rfl⟩ | ⟨rfl,rfl⟩<;>rcases aL k' a' Pq with ⟨jj,b',oQ,rfl⟩ | ⟨rfl,rfl⟩
  ·rw [Env.aD _ _ h1,cu] at hc;rw [Env.aD _ _ jj,cu] at cY;rw [fT] at uS;exact G.sep k k' b b' c bP h2 oQ uS hc cY
  ·rw [Env.aD _ _ h1,cu] at hc;rw [Env.aU] at cY;rw [fT] at uS;have cI:=bi (G.obj k b h2) hc;simp only [av.has] at cY;rcases hb with hb | hb
   ·rw [hb] at cY;exact G.sep k k' b _ c bP h2 ho uS hc cY
   ·rw [hb] at cY;simp only [Option.some.injEq] at cY;omega
  ·rw [Env.aU] at hc;rw [Env.aD _ _ jj,cu] at cY;have cI:=bi (G.obj k' b' oQ) cY;simp only [av.has] at hc;rcases hb with hb | hb
   ·rw [hb] at hc;exact G.sep k k' _ b' c bP ho oQ rfl hc cY
   ·rw [hb] at hc;simp only [Option.some.injEq] at hc;omega
  ·exact bP rfl
theorem gJ {cfg:aT cod} {n:Nat} {a out:Out cod} {t:T (Out cod)} (h:(p9 cfg n a t).ah out):((n=0∧cfg.Ys=true)∧a=out)∨t.ah out:=by
 unfold p9 at h;split at h
 ·rename_i hB;rw [T.fY] at h;split at h
  ·rename_i hc;exact .inl ⟨⟨of_decide_eq_true hc,hB⟩,h⟩
  ·exact .inr h
 ·exact .inr h
theorem G9 {cfg:aT cod} {n:Nat} {a:Out cod} {t:T (Out cod)} (h:cfg.Ys=true) (hn:n=0):(p9 cfg n a t).ah a:=by
 unfold p9;rw [if_pos h,T.fY,if_pos (by simp [hn])];rfl
theorem Qo {cfg:aT cod} {n:Nat} {a out:Out cod} {t:T (Out cod)} (h:t.ah out) (hn:0 < n):(p9 cfg n a t).ah out:=by
 unfold p9;split
 ·rw [T.fY,if_neg (by simp;omega)];exact h
 ·exact h
theorem mc (c:aO):∀(l:List c.α) (i:Nat),aN c (l.drop i)=(aN c l).drop (i*c.size)
 | l,0=>by simp
 | [],i+1=>by simp [aN]
 | a::l,i+1=>by
   have hl:((c.enc a).map Cell.val).length=c.size:=by rw [List.length_map,c.size_eq]
   have e:(i+1)*c.size=c.size+i*c.size:=by rw [Nat.add_mul];omega
   have ih:=mc c l i;simp only [aN,List.drop_succ_cons,List.flatMap_cons,List.map_append] at ih ⊢;have t1:((c.enc a).map Cell.val).drop (c.size+i*c.size)=[]:=List.drop_of_length_le (by omega);rw [e,List.drop_append,t1,hl,Nat.add_sub_cancel_left,List.nil_append];exact ih
theorem jO (c:aO):∀(l:List c.α) (i:Nat),aN c (l.take i)=(aN c l).take (i*c.size)
 | l,0=>by simp [aN]
 | [],i+1=>by simp [aN]
 | a::l,i+1=>by
   have hl:((c.enc a).map Cell.val).length=c.size:=by rw [List.length_map,c.size_eq]
   have e:(i+1)*c.size=c.size+i*c.size:=by rw [Nat.add_mul];omega
   have ih:=jO c l i;simp only [aN,List.take_succ_cons,List.flatMap_cons,List.map_append] at ih ⊢;have t1:((c.enc a).map Cell.val).take (c.size+i*c.size)=(c.enc a).map Cell.val:=List.take_of_length_le (by omega);rw [e,List.take_append,t1,hl,Nat.add_sub_cancel_left,ih]
theorem ZP {u:Nat} {o:av cod} {l:List (cod u).α} (h:o.rows cod u=some l):(∃ty,o= .arr u l ty)∨(∃ty,o= .own u l ty)∨o= .aB u l:=by
 cases o<;>simp only [av.rows] at h<;>try (cases h;done)
 all_goals
  split at h
  ·rename_i e;subst e;simp only [Option.some.injEq] at h;subst h
   first | exact .inl ⟨_,rfl⟩ | exact .inr (.inl ⟨_,rfl⟩) | exact .inr (.inr rfl)
  ·cases h
theorem nM {H:Heap cod} {w:World} {M:Nat→Prop} {u:Nat} {x:SV} {v:Value} {l:List (cod u).α} (h:(rowsOf u H x).ah l) (G:Good env H w M) (hx:aS env H.length x v):
 ∃A m c,v= .slice A m c∧l.length=m∧m≤c∧c≤maxLen∧(0 < m→∃a,A=some a∧∀j q,(aN (cod u) l)[j]? =some q→w.cell? (a.add j)=some q):=by
 unfold rowsOf at h;split at h
 ·rename_i k n;split at h
  ·rename_i u' l0 ty ho;split at h
   ·rename_i e;subst e;rw [T.ad] at h;simp only at h;subst h;obtain ⟨cI,hv,A,c,hs,vB,mA,hA⟩:=hx;have kV:=G.obj k _ (aE ho (by simp))
    have hn:n=l0.length:=by
     obtain ⟨_,_,h3,_⟩:=kV;rw [←hv,hs] at h3;rcases h3.2 with ⟨e,hz⟩ | ⟨g,cap,eW,e,_⟩
     ·simp only [Value.slice.injEq] at e;omega
     ·simp only [Value.slice.injEq] at e;omega
    subst hn;refine ⟨A,_,c,hs,rfl,vB,mA,fun hp=>⟨_,hA hp,fun j q hq=>?_⟩⟩;have dn:=dR (ty:=ty) kV (.inr (.inl rfl));rw [dp];have:=dn.2 j q hq;unfold HV.addr;simpa using this
   ·exact h.elim
  ·exact h.elim
 ·rename_i k i n t;split at h
  ·rename_i l0 hr;rw [T.ak,T.ad] at h;obtain ⟨hl,rfl⟩:=h;obtain ⟨cI,A,c,hs,vB,mA,_,hA⟩:=hx
   have dn:(env k).fE=(cod u).size∧reads w (env k) (aN (cod u) l0):=by
    rcases ZP hr with ⟨ty,ho⟩ | ⟨ty,ho⟩ | ho
    ·exact dR (ty:=ty) (G.obj k _ (aE ho (by simp))) (.inl rfl)
    ·exact dR (ty:=ty) (G.obj k _ (aE ho (by simp))) (.inr (.inl rfl))
    ·exact dR (ty:=0) (G.obj k _ (aE ho (by simp))) (.inr (.inr rfl))
   refine ⟨A,n,c,hs,hl,vB,mA,fun hp=>⟨_,hA hp,fun j q hq=>?_⟩⟩;rw [jO,mc,List.getElem?_take] at hq;split at hq
   ·rw [List.getElem?_drop] at hq;have:=dn.2 _ q hq;rw [dp];unfold HV.addr;rw [dn.1,Nat.zero_add];exact this
   ·cases hq
  ·exact h.elim
 ·exact h.elim
theorem rJ (w:World) (base:Nat) (t ty e:TypeId) (i:TypeInfo) (size:Nat) (ht:P.underlying t=some (.slice e)) (hi:P.info? e=some i)
 (v:Value) (n:Nat) (xs:List Value) (dS:w.ownsRow base e size v n xs) (c:Nat):(Builtin.append_ #[t,t] ty #[v,.slice none 0 c]).run P w= .ok v w:=by
 rcases dS.2 with ⟨rfl,rfl⟩ | ⟨g,cap,eW,rfl,_,_,vB,_⟩
 ·simp [Builtin.append_,run_underlying ht,sizeOf,typeInfo,hi,Builtin.lenOf,Builtin.firstCells]
 ·simp [Builtin.append_,run_underlying ht,sizeOf,typeInfo,hi,Builtin.lenOf,Builtin.firstCells,vB,storeCells]
theorem lq (w:World) (t ty e:TypeId) (i:TypeInfo) (ht:P.underlying t=some (.slice e)) (hi:P.info? e=some i)
 (A A':Option Addr) (n c c':Nat) (vB:n≤c):(Builtin.append_ #[t,t] ty #[.slice A n c,.slice A' 0 c']).run P w= .ok (.slice A n c) w:=by
 cases A<;>cases A'<;>simp [Builtin.append_,run_underlying ht,sizeOf,typeInfo,hi,Builtin.lenOf,Builtin.firstCells,vB,storeCells,loadCells,loadCellsFrom]
theorem jy (w:World) (base:Nat) (t ty e:TypeId) (i:TypeInfo) (z:Value) (size bytes:Nat) (ht:P.underlying t=some (.slice e)) (hi:P.info? e=some i) (hz:i.zero=some z)
 (Nn:i.size=size) (hby:i.bytes=bytes) (UH:z.cells.size=size) (kt:0 < size)
 (v:Value) (n:Nat) (xs:List Value) (dS:w.ownsRow base e size v n xs)
 (A:Option Addr) (m c:Nat) (news:List Value) (hl:news.length=m*size) (hA:0 < m→∃a,A=some a∧∀j q,news[j]? =some q→w.cell? (a.add j)=some q) (h1:∀u∈news,u.oneCell'=true)
 (h63:n+m≤maxLen) (ack:(n+m)*bytes≤140737488355328) (aeC:base≤w.heap.size):
 ∃v' w',(Builtin.append_ #[t,t] ty #[v,.slice A m c]).run P w= .ok v' w'∧w'.ownsRow base e size v' (n+m) (xs++news)∧w.grownBy w' v.ownBlock∧
  (v'= .slice none 0 0↔v= .slice none 0 0∧m=0)∧(v'.ownBlock=v.ownBlock∨v'.ownBlock=some w.heap.size):=by
 rcases A with _ | a
 ·have hm:m=0:=by
   rcases Nat.eq_zero_or_pos m with h0 | h0
   ·exact h0
   ·obtain ⟨a,h,_⟩:=hA h0;cases h
  subst hm;have hn:news=[]:=List.eq_nil_of_length_eq_zero (by simpa using hl);subst hn;exact ⟨v,w,rJ w base t ty e i size ht hi v n xs dS c,by simpa using dS,World.grownBy.refl w _,by simp,.inl rfl⟩
 ·refine run_append_own_at w base t ty e i z size bytes ht hi hz Nn hby UH kt v n xs dS a m c news hl (fun j q hq=>?_) h1 h63 ack aeC;rcases Nat.eq_zero_or_pos m with h0 | h0
  ·subst h0;have hn:news=[]:=List.eq_nil_of_length_eq_zero (by simpa using hl);subst hn;simp at hq
  ·obtain ⟨a',h,hc⟩:=hA h0;injection h with h
   subst h;exact hc j q hq
end
end Sym
end Go.Proofs.YtcjagpfbhnmggaaGreatDoor
