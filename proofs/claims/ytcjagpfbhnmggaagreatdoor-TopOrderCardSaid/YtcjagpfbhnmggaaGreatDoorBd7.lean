/- Parts of the proof. -/
import Derived.Test.YtcjagpfbhnmggaaGreatDoorBd6
namespace Go.Proofs.YtcjagpfbhnmggaaGreatDoor
namespace Sym
open Go.RowKit
section
variable {cod:Nat→aO} {P:Program} {env:Env} {N:Nat}
def iL (P:Program) (R:Value→World→Prop):Result Next→Prop
 | .ok (.value v) w'=>R v w'
 | .ok .skip w'=>R undef w'
 | .ok (.enter f args) w'=>Calls P f args w' fun e RG=>∃v,e= .returned v∧R v RG
 | _=>False
theorem G7 {o:Oper} {a:Act} {w:World} {R:Value→World→Prop} {K:Act→World→Prop} {Q:Exit→Act→World→Prop} (h:iL P R ((execOp a.eval o).run P w)) (hK:∀v w',R v w'→K (a.put o.dst v) w'):o.wp P a w K Q:=by
 unfold Oper.wp;generalize (execOp a.eval o).run P w=r at*
 cases r with
 | ok n w'=>
   cases n<;>simp only [iL] at h<;>simp only [Oper.upon]
   case value u=>exact hK _ _ h
   case skip=>exact hK _ _ h
   case enter f args=>exact h.mono fun e RG ⟨v,he,hR⟩=>by subst he;exact hK _ _ hR
 | halt x w'=>simp only [iL] at h
theorem nt (f:Int→Int→Int) (op:Value→Value→Sem Value) (YY:∀k a b w,(op (.int k a) (.int k b)).run P w= .ok (.int k (f a b)) w):∀(xs:List SV) (us:List Value) (k:IntKind) (a n:Int) (w:World),Bx f k a xs=some n→F2 (aS env N) xs us→
 (us.foldlM op (.int k a)).run P w= .ok (.int k n) w
 | [],us,k,a,n,w,h,hu=>by
   cases hu;simp only [Bx,Option.some.injEq] at h;subst h
   rfl
 | x::xs,us,k,a,n,w,h,hu=>by
   cases hu with
   | cons hx iP=>
     unfold Bx at h;split at h
     ·rename_i e;simp at e
     ·rename_i k' b xs' e;simp only [List.cons.injEq] at e;obtain ⟨rfl,rfl⟩:=e;split at h
      ·rename_i hk;subst hk;have hb:=hx;simp only [aS,fi,bZ] at hb;subst hb;rw [List.foldlM_cons,Sem.run_bind,YY,Result.andThen_ok];exact nt f op YY xs _ k _ n w h iP
      ·cases h
     ·cases h
theorem V6 (k:IntKind) (a b:Int) (w:World):(Builtin.max2 (.int k a) (.int k b)).run P w= .ok (.int k (max a b)) w:=by
 simp only [Builtin.max2,Sem.run_pure];congr 2;split<;>omega
theorem V7 (k:IntKind) (a b:Int) (w:World):(Builtin.min2 (.int k a) (.int k b)).run P w= .ok (.int k (min a b)) w:=by
 simp only [Builtin.min2,Sem.run_pure];congr 2;split<;>omega
theorem BK (c:aO) (z:List Value) (a:c.α) (hz:z=(c.enc a).map Cell.val) (n:Nat):(madeCells z.toArray (n*c.size)).toList=aN c (List.replicate n a):=by
 have hzl:z.length=c.size:=by rw [hz,List.length_map,c.size_eq]
 apply List.ext_getElem?;intro j;have Pw:=c.pos;rcases Nat.lt_or_ge j (n*c.size) with hj | hj
 ·have hq:j / c.size < n:=Nat.div_lt_of_lt_mul (by rw [Nat.mul_comm];exact hj);have hr:j % c.size < c.size:=Nat.mod_lt _ Pw;have hv:=r9 c (List.replicate n a) (j / c.size) (j % c.size) (by rw [List.length_replicate];exact hq) hr;rw [Nat.div_add_mod'] at hv;rw [hv];have hg:(List.replicate n a).getD (j / c.size) c.d=a:=by simp [List.getD,hq]
  rw [hg]
  have hl:(madeCells z.toArray (n*c.size)).toList[j]? =some (z.toArray[j % z.toArray.size]!):=by
   simp [madeCells,hj]
  rw [hl,←List.getElem?_map,←hz];have h2:j % z.length < z.length:=by rw [hzl];exact hr
  simp only [List.size_toArray];rw [←hzl,List.getElem?_eq_getElem h2];simp [getElem!_pos,h2]
 ·rw [List.getElem?_eq_none (by simp [madeCells];omega),List.getElem?_eq_none (by rw [bB,List.length_replicate];omega)]
theorem FG (cfg:aT cod) {H:Heap cod} {w:World} {M:Nat→Prop} {ts:Array TypeId} {t ty:TypeId} {x:SV} {v:Value} {out:Out cod} (Uy:ts[0]? =some t) (h:(xw cfg H t x).ah out) (G:Good env H w M) (hx:aS env H.length x v):
 ∃w',(Builtin.clear_ ts ty #[v]).run cfg.P w= .ok (.tuple #[]) w'∧fw env H w M out (.tuple #[]) w':=by
 unfold xw at h;split at h
 ·rename_i e hh i n tt ht hs;obtain ⟨cI,A,c,rfl,vB,mA,_,hA⟩:=kK hs hx;split at h
  ·rename_i u l mw zc ho hz;split at h
   ·rename_i hc;obtain ⟨qo,hzl⟩:=hc;rw [T.ak,T.ad] at h;obtain ⟨oo,rfl⟩:=h;have hg:=aE ho (by simp);have cI:=(List.getElem?_eq_some_iff.1 hg).1;rcases Nat.eq_zero_or_pos n with DC | hnp
    ·subst DC;refine ⟨w,?_,?_⟩
     ·cases A with
      | none=>simp [Builtin.clear_,Uy,run_underlying ht]
      | some a=>simp [Builtin.clear_,Uy,run_underlying ht]
     ·have e1:H.set hh (.own u (l.take i++(List.replicate 0 ((cod u).dec zc)++l.drop (i+0))) mw)=H:=by
       rw [List.replicate_zero,List.nil_append,Nat.add_zero,List.take_append_drop];obtain ⟨Xv,hl3⟩:=List.getElem?_eq_some_iff.1 hg;rw [←hl3];exact List.set_getElem_self Xv
      rw [e1];exact bj G ⟨#[],rfl,.nil⟩
    ·obtain ⟨h1,h2,h3,h4,h5⟩:=G.obj hh _ hg;unfold zeroCells at hz
     cases hi:cfg.P.info? e with
     | none=>simp [hi] at hz
     | some inf=>
       cases rv:inf.zero with
       | none=>simp [hi,rv] at hz
       | some zv=>
         simp only [hi,rv,Option.bind_some,Option.some.injEq] at hz;subst hz;have hzr:=c8 (env:=env) (N:=H.length) zv;have BD:(SV.ofValue zv).cells.all Cell.scalar=true:=by rw [←(cod u).ck _ qo];exact (cod u).l3 _
         have hzv:=cN BD hzr;have hmv:=BK (cod u) zv.cells.toList ((cod u).dec (SV.ofValue zv).cells) (by rw [(cod u).ck _ qo];exact hzv) n
         have UH:zv.cells.size=(cod u).size:=by
          have:=cq hzr;rw [hzl] at this;simpa using this.symm
         have hzc:(Builtin.zeroCells zv.cells n).toList=aN (cod u) (List.replicate n ((cod u).dec (SV.ofValue zv).cells)):=by
          rw [←hmv,Array.toArray_toList];unfold Builtin.zeroCells madeCells;rw [UH]
         have afm:(zeroValue e).run cfg.P w= .ok zv w:=by simp [zeroValue,typeInfo,hi,rv]
         generalize hD:List.replicate n ((cod u).dec (SV.ofValue zv).cells)=D at*;have Xr:D.length=n:=by rw [←hD,List.length_replicate]
         rcases h3.2 with ⟨hv,hn⟩ | ⟨g,cap,eW,hv,hb,hgg,YW,aeE,pX,sq⟩
         ·omega
         ·have e:=h5 _ _ _ hv;simp only [Addr.mk.injEq,and_true] at e;subst e;have hmb:M (env hh).block:=h4 _ (by simp [hv,Value.ownBlock]);have mB:(i+n)*(cod u).size≤l.length*(cod u).size:=Nat.mul_le_mul_right _ oo;have hic:l.length*(cod u).size≤cap*(cod u).size:=Nat.mul_le_mul_right _ YW;rw [Nat.add_mul] at mB;have UD:=bB (cod u) l;have hDv:=bB (cod u) D;rw [Xr] at hDv;have cW:=run_storeCells_at cfg.P (env hh).block (i*(cod u).size) mw (aN (cod u) D) 0 eW w hgg (by simp;omega) (sf (cod u) D);simp only [Nat.add_zero] at cW;have lR:(env hh).addr i 0=⟨(env hh).block,i*(cod u).size,none⟩:=by simp [HV.addr,h1,h2]
          have hAa:=hA hnp;rw [lR] at hAa;subst hAa;obtain ⟨m,rfl⟩:∃m,n=m+1:=⟨n - 1,by omega⟩
          have afd:(Builtin.clear_ ts ty #[.slice (some ⟨(env hh).block,i*(cod u).size,none⟩) (m+1) c]).run cfg.P w= .ok (.tuple #[]) (w.setRow (env hh).block (eW.toList.take (i*(cod u).size)++aN (cod u) D++eW.toList.drop (i*(cod u).size+(aN (cod u) D).length)).toArray):=by
           simp [Builtin.clear_,Uy,run_underlying ht,afm,hzc,cW]
          have hL:(l.take i++(D++l.drop (i+(m+1)))).length=l.length:=by
           rw [List.length_append,List.length_append,List.length_take,List.length_drop,Xr];omega
          have hvL:aN (cod u) (l.take i++(D++l.drop (i+(m+1))))=(aN (cod u) l).take (i*(cod u).size)++(aN (cod u) D++(aN (cod u) l).drop (i*(cod u).size+(m+1)*(cod u).size)):=by
           rw [dW,dW,jO,mc,Nat.add_mul]
          refine ⟨_,afd,env,(eH.refl _ _).but _,by simp,⟨#[],rfl,.nil⟩,?_,ic hmb⟩;refine G.write hg rfl (b:=(env hh).block) (by simp [av.has,hv,Value.ownBlock]) (by simp) (fun k hk=>setRow_other w _ k _ hk) ⟨h1,h2,?_,h4,h5⟩ (fun _ h=>h);refine ⟨by rw [bB,hL],.inr ⟨(env hh).block,cap,_,by rw [hL];exact hv,hb,setRow_heap w _ eW _ mw _ hgg,by rw [hL];exact YW,aeE,?_,?_⟩⟩
          ·simp only [List.size_toArray,List.length_append,List.length_take,List.length_drop,Array.length_toList];omega
          ·rw [hvL,hL,←sq,hDv];have e1:(eW.toList.take (l.length*(cod u).size)).take (i*(cod u).size)=eW.toList.take (i*(cod u).size):=by rw [List.take_take];congr 1;omega
           rw [e1];have hA':(eW.toList.take (i*(cod u).size)).length=i*(cod u).size:=by rw [List.length_take,Array.length_toList];omega
           have t1:(eW.toList.take (i*(cod u).size)).take (l.length*(cod u).size)=eW.toList.take (i*(cod u).size):=List.take_of_length_le (by omega);have t2:(aN (cod u) D).take (l.length*(cod u).size - (i*(cod u).size))=aN (cod u) D:=List.take_of_length_le (by omega);simp only [List.append_assoc];rw [List.take_append,hA',t1,List.take_append,hDv,t2,List.drop_take,Nat.sub_sub]
   ·exact h.elim
  ·exact h.elim
 ·exact h.elim
theorem JA (cfg:aT cod) {H:Heap cod} {w:World} {M:Nat→Prop} {ts:Array TypeId} {t ty:TypeId} {x y:SV} {v v':Value} {out:Out cod} (Uy:ts[0]? =some t) (h:(AY cfg H t x y).ah out) (G:Good env H w M) (hx:aS env H.length x v) (hy:aS env H.length y v'):
 ∃r w',(Builtin.copy_ ts ty #[v,v']).run cfg.P w= .ok r w'∧fw env H w M out r w':=by
 unfold AY at h;split at h
 ·rename_i e hh i n tt ht hs;obtain ⟨cI,A,c,rfl,vB,mA,_,hA⟩:=kK hs hx;split at h
  ·rename_i u l mw ho;split at h
   ·rename_i hc;obtain ⟨kt,pe⟩:=hc;rw [T.aw] at h;obtain ⟨l',gP,h⟩:=h;rw [T.ak,T.ad] at h;obtain ⟨oo,rfl⟩:=h;obtain ⟨B,m,c',rfl,hm,hmc,aeE,hB⟩:=nM gP G hy;subst hm;have hg:=aE ho (by simp);have akz:=(List.getElem?_eq_some_iff.1 hg).1;have yk:=bO (P:=cfg.P) (e:=e) (by omega);obtain ⟨inf,hi⟩:=Option.isSome_iff_exists.1 yk
    have hi1:inf.size=1:=by
     have:=pe;unfold Program.cellsOf at this;rw [hi] at this;simpa using this
    have aaO:∀(vs:Array Value),(Builtin.copy_ ts ty vs).run cfg.P w=(Builtin.copy_ #[t,t] ty vs).run cfg.P w:=fun vs=>by
     simp only [Builtin.copy_,Uy,List.getElem?_toArray,List.getElem?_cons_zero]
    rcases Nat.eq_zero_or_pos (Nat.min l'.length n) with hz | hp
    ·refine ⟨.int .i64 0,w,?_,?_⟩
     ·have DC:Nat.min l'.length n=0:=hz;rw [aaO]
      cases A with
      | none=>cases B<;>simp [Builtin.copy_,run_underlying ht,Builtin.lenOf,Builtin.firstCells,sizeOf,typeInfo,hi,DC,goInt,loadCells,loadCellsFrom]
      | some a=>cases B<;>simp [Builtin.copy_,run_underlying ht,Builtin.lenOf,Builtin.firstCells,sizeOf,typeInfo,hi,DC,goInt,storeCells,loadCells,loadCellsFrom]
     ·have e1:H.set hh (.own u (l.take i++(l'.take n++l.drop (i+Nat.min l'.length n))) mw)=H:=by
       have e2:l'.take n=[]:=by
        have:min l'.length n=0:=hz;rcases Nat.eq_zero_or_pos n with h0 | h0
        ·rw [h0];rfl
        ·rw [List.eq_nil_of_length_eq_zero (show l'.length=0 by omega),List.take_nil]
       rw [hz,e2,List.nil_append,Nat.add_zero,List.take_append_drop];obtain ⟨Xv,hl3⟩:=List.getElem?_eq_some_iff.1 hg;rw [←hl3];exact List.set_getElem_self Xv
      rw [e1,hz];exact bj G rfl
    ·obtain ⟨h1,h2,h3,h4,h5⟩:=G.obj hh _ hg;have acE:Nat.min l'.length n=min l'.length n:=rfl;have DC:0 < n:=by omega
     have hl0:0 < l'.length:=by omega
     obtain ⟨b,rfl,nz⟩:=hB hl0;rcases h3.2 with ⟨hv,hn⟩ | ⟨g,cap,eW,hv,hb,hgg,YW,ahx,pX,sq⟩
     ·omega
     ·have e:=h5 _ _ _ hv;simp only [Addr.mk.injEq,and_true] at e;subst e;have hmb:M (env hh).block:=h4 _ (by simp [hv,Value.ownBlock]);rw [kt] at pX sq;have UD:(aN (cod u) l).length=l.length:=by rw [bB,kt,Nat.mul_one]
      have aie:(aN (cod u) l').length=l'.length:=by rw [bB,kt,Nat.mul_one]
      have lR:(env hh).addr i 0=⟨(env hh).block,i,none⟩:=by simp [HV.addr,h1,h2,kt]
      have hAa:=hA DC;rw [lR] at hAa;subst hAa;generalize hD:(aN (cod u) l').take n=D at*;have Xr:D.length=Nat.min l'.length n:=by rw [←hD,List.length_take,aie,acE,Nat.min_comm]
      have hDv:D=aN (cod u) (l'.take n):=by
       have:=jO (cod u) l' n;rw [kt,Nat.mul_one] at this;rw [←hD,this]
      have kW:∀q∈D,q.oneCell'=true:=fun q hq=>by
       rw [hDv] at hq;exact sf (cod u) _ q hq
      have cW:=run_copy_row cfg.P w t t ty e (env hh).block i n c b l'.length c' eW mw D ht (by rw [hi];simp [hi1]) hgg Xr (fun j q hq=>nz j q (by
       rw [←hD,List.getElem?_take] at hq;split at hq
       ·exact hq
       ·cases hq)) (by omega) kW
      refine ⟨_,_,(aaO _).trans cW,?_⟩
      have hL:(l.take i++(l'.take n++l.drop (i+Nat.min l'.length n))).length=l.length:=by
       rw [List.length_append,List.length_append,List.length_take,List.length_take,List.length_drop,acE];omega
      have hvL:aN (cod u) (l.take i++(l'.take n++l.drop (i+Nat.min l'.length n)))=(aN (cod u) l).take i++(D++(aN (cod u) l).drop (i+D.length)):=by
       have t1:=jO (cod u) l i;have t2:=mc (cod u) l (i+Nat.min l'.length n);rw [kt,Nat.mul_one] at t1 t2;rw [dW,dW,t1,t2,←hDv,Xr]
      rw [Xr] at hvL;refine ⟨env,(eH.refl _ _).but _,by simp,?_,?_,ic hmb⟩
      ·rw [Xr];rfl
      refine G.write hg rfl (b:=(env hh).block) (by simp [av.has,hv,Value.ownBlock]) (by simp) (fun k hk=>setRow_other w _ k _ hk) ⟨h1,h2,?_,h4,h5⟩ (fun _ h=>h);refine ⟨by rw [bB,hL],.inr ⟨(env hh).block,cap,_,by rw [hL];exact hv,hb,setRow_heap w _ eW _ mw _ hgg,by rw [hL];exact YW,ahx,?_,?_⟩⟩
      ·simp only [List.size_toArray,List.length_append,List.length_take,List.length_drop,Array.length_toList,Xr,acE];rw [kt];omega
      ·rw [hvL,hL,kt,←sq,Xr];simp only [Nat.mul_one];have e1:(eW.toList.take l.length).take i=eW.toList.take i:=by rw [List.take_take];congr 1;omega
       rw [e1];have hA':(eW.toList.take i).length=i:=by rw [List.length_take,Array.length_toList];omega
       have t1:(eW.toList.take i).take l.length=eW.toList.take i:=List.take_of_length_le (by omega);have t2:D.take (l.length - i)=D:=List.take_of_length_le (by omega);simp only [List.append_assoc];rw [List.take_append,hA',t1,List.take_append,Xr,t2,List.drop_take,Nat.sub_sub]
   ·exact h.elim
  ·exact h.elim
 ·exact h.elim
theorem Ag (cfg:aT cod) {H:Heap cod} {w:World} {M:Nat→Prop} {b:Builtin} {ts:Array TypeId} {ty:TypeId} {cs:Array Bool} {args:List SV} {vs:List Value} {out:Out cod} (h:(dc cfg H b ts args).ah out) (G:Good env H w M) (hM:∀k,w.heap.size≤k→M k)
 (ha:F2 (aS env H.length) args vs):iL cfg.P (fw env H w M out) ((builtin b ts ty cs vs.toArray).run cfg.P w):=by
 unfold dc at h;split at h
 ·rename_i x
  cases ha with
  | @cons _ u _ _ hx hn=>
    cases hn
    have fin:∀v,(Builtin.len_ ts ty #[u]).run cfg.P w= .ok v w→fw env H w M out v w→iL cfg.P (fw env H w M out) ((builtin .len ts ty cs [u].toArray).run cfg.P w):=by
     intro v hv hA;simp only [builtin,Sem.run_bind,Sem.run_pure,hv,Result.andThen_ok];exact hA
    cases ht:ts[0]? with
    | none=>simp only [ht,Option.bind_none] at h;exact h.elim
    | some t=>
      simp only [ht,Option.bind_some] at h;split at h
      ·rename_i s hu;rw [T.ad] at h;subst h;have Px:=hx;simp only [aS,fi,bZ] at Px;subst Px;refine fin (.int .i64 s.length) ?_ (bj G rfl);simp [Builtin.len_,ht,run_underlying hu,goInt,gV]
      ·rename_i n e hu;rw [T.ad] at h;subst h;refine fin (.int .i64 n) ?_ (bj G rfl);simp [Builtin.len_,ht,run_underlying hu,goInt]
      ·rename_i e hu;split at h
       ·rename_i hh i n t' hs;rw [T.ad] at h;subst h;obtain ⟨_,A,c,rfl,_⟩:=kK hs hx;refine fin (.int .i64 n) ?_ (bj G rfl);simp [Builtin.len_,ht,run_underlying hu,goInt]
       ·split at h
        ·rw [T.ad] at h;subst h;have Px:=hx;simp only [aS,fi,bZ] at Px;subst Px;refine fin (.int .i64 0) ?_ (bj G rfl);simp [Builtin.len_,ht,run_underlying hu,goInt]
        ·exact h.elim
      ·exact h.elim
 ·rename_i k a xs;split at h
  ·rename_i n hn;rw [T.ad] at h;subst h
   cases ha with
   | @cons _ u _ us hx iP=>
     have Px:=hx;simp only [aS,fi,bZ] at Px;subst Px;have:=nt (P:=cfg.P) max Builtin.max2 (fun k a b w=>V6 k a b w) xs us k a n w hn iP;simp only [builtin,Builtin.max_,Sem.run_bind,this,Result.andThen_ok,Sem.run_pure];exact bj G rfl
  ·exact h.elim
 ·rename_i k a xs;split at h
  ·rename_i n hn;rw [T.ad] at h;subst h
   cases ha with
   | @cons _ u _ us hx iP=>
     have Px:=hx;simp only [aS,fi,bZ] at Px;subst Px;have:=nt (P:=cfg.P) min Builtin.min2 (fun k a b w=>V7 k a b w) xs us k a n w hn iP;simp only [builtin,Builtin.min_,Sem.run_bind,this,Result.andThen_ok,Sem.run_pure];exact bj G rfl
  ·exact h.elim
 ·rename_i s x;split at h
  ·rename_i t t' ht ht';split at h
   ·rename_i e;subst e
    cases ha with
    | @cons _ u _ _ hs hn=>
      cases hn with
      | @cons _ v _ _ hx hn=>
        cases hn;obtain ⟨v',w',h1,h2⟩:=CY (ty:=ty) cfg h G hM hs hx
        have e:(Builtin.append_ ts ty #[u,v]).run cfg.P w=(Builtin.append_ #[t,t] ty #[u,v]).run cfg.P w:=by
         simp only [Builtin.append_,ht,ht',List.getElem?_toArray,List.getElem?_cons_zero,List.getElem?_cons_succ]
        simp only [builtin,Sem.run_bind,e,h1,Result.andThen_ok,Sem.run_pure];exact h2
   ·exact h.elim
  ·exact h.elim
 ·rename_i x;split at h
  ·rename_i t ht
   cases ha with
   | @cons _ u _ _ hx hn=>
     cases hn;obtain ⟨w',h1,h2⟩:=FG (ty:=ty) cfg ht h G hx;simp only [builtin,Sem.run_bind,h1,Result.andThen_ok,Sem.run_pure];exact h2
  ·exact h.elim
 ·rename_i x y;split at h
  ·rename_i t ht
   cases ha with
   | @cons _ u _ _ hx hn=>
     cases hn with
     | @cons _ u' _ _ hy hn=>
       cases hn;obtain ⟨r,w',h1,h2⟩:=JA (ty:=ty) cfg ht h G hx hy;simp only [builtin,Sem.run_bind,h1,Result.andThen_ok,Sem.run_pure];exact h2
  ·exact h.elim
 ·exact h.elim
end
end Sym
end Go.Proofs.YtcjagpfbhnmggaaGreatDoor
