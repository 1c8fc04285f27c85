/- Parts of the proof. -/
import Derived.Test.YtcjagpfbhnmggaaGreatDoorBd12
namespace Go.Proofs.YtcjagpfbhnmggaaGreatDoor
namespace Sym
open Go.RowKit
section
variable {cod:Nat→aO}
def qn (cfg:aT cod) (ops:Array Oper) (o:Oper) (st:St cod) (out:Out cod):Prop:=
 match o.guard with
 | none=>(p8 cfg st.tmps st.heap o).ah out
 | some (j,want)=>
   match fC ops st j with
   | .c (.bool b)=>if (b==want)=true then (p8 cfg st.tmps st.heap o).ah out else out={v:=ik,H:=st.heap}
   | .c (.raw (.tuple ⟨[]⟩))=>out={v:=ik,H:=st.heap}
   | _=>False
theorem cX {cfg:aT cod} {ops:Array Oper} {o:Oper} {st bg:St cod}:aZ cfg ops o st bg↔∃out,qn cfg ops o st out∧bg=st.put o.dst out:=by
 have hs:(mv cfg o st).ah bg↔∃out,(p8 cfg st.tmps st.heap o).ah out∧bg=st.put o.dst out:=by
  unfold mv;rw [T.aw];constructor
  ·rintro ⟨out,h1,h2⟩;exact ⟨out,h1,(T.ad.1 h2).symm⟩
  ·rintro ⟨out,h1,h2⟩;exact ⟨out,h1,T.ad.2 h2.symm⟩
 unfold aZ qn;split
 ·rename_i hg;simp only [hg];exact hs
 ·rename_i j want hg;simp only [hg];split
  ·rename_i b hy;simp only [hy];split
   ·exact hs
   ·exact ⟨fun h=>⟨_,rfl,h⟩,fun ⟨out,h1,h2⟩=>by subst h1;exact h2⟩
  ·rename_i hy;simp only [hy];exact ⟨fun h=>⟨_,rfl,h⟩,fun ⟨out,h1,h2⟩=>by subst h1;exact h2⟩
  ·rename_i h1 h2;refine ⟨fun h=>h.elim,fun ⟨out,h,_⟩=>?_⟩;split at h
   ·rename_i b hy;exact h1 b hy
   ·rename_i hy;exact h2 hy
   ·exact h
theorem jg {cfg:aT cod} {ops:Array Oper} {o:Oper} {st:St cod} {tm:List SV} {out:Out cod} {d:Option Nat} {v:SV} (htm:tm=match d with | none=>st.tmps | some d=>st.tmps.set d v) (hd:∀t,d=some t→t∉o.looksAt ops):
 qn cfg ops o {tmps:=tm,heap:=st.heap} out↔qn cfg ops o st out:=by
 subst htm
 cases d with
 | none=>exact Iff.rfl
 | some t=>
   have hn:=hd t rfl
   have hev:∀x∈o.op.operands.toList,cD (st.tmps.set t v) x=cD st.tmps x:=fun x hx=>by
    cases x with
    | tmp u=>
      have:t≠u:=fun e=>hn (by subst e;exact List.mem_append_left _ (List.mem_filterMap.2 ⟨.tmp t,hx,rfl⟩));simp only [cD,List.getD]
      rw [List.getElem?_set_ne this]
    | _=>rfl
   have YY:=Qj cfg st.heap o hev
   have hy:∀j want,o.guard=some (j,want)→fC ops {tmps:=st.tmps.set t v,heap:=st.heap} j=fC ops st j:=fun j want hg=>by
    unfold fC
    cases ahC:(ops[j]?).bind (·.dst) with
    | none=>rfl
    | some u=>
      have:t≠u:=fun e=>hn (by subst e;refine List.mem_append_right _ ?_;rw [hg];simp [ahC]);simp only [List.getD];rw [List.getElem?_set_ne this]
   unfold qn;split
   ·rw [YY]
   ·rename_i j want hg;rw [hy j want hg];simp only [YY]
theorem rf {cfg:aT cod} {ops:Array Oper} {o:Oper} {st:St cod} {out:Out cod} (h:qn cfg ops o st out):
 (ca cfg o≤3→out.kill=[])∧(ca cfg o=0→out.H=st.heap∧∀H',qn cfg ops o {tmps:=st.tmps,heap:=H'} {v:=out.v,H:=H'})∧
 (ca cfg o=1→out.H=st.heap∧∀X,qn cfg ops o {tmps:=st.tmps,heap:=st.heap++X} {v:=out.v,H:=st.heap++X})∧(ca cfg o=2→∃X,out.H=st.heap++X):=by
 have run:(p8 cfg st.tmps st.heap o).ah out→(ca cfg o≤3→out.kill=[])∧(ca cfg o=0→out.H=st.heap∧∀H',(p8 cfg st.tmps H' o).ah {v:=out.v,H:=H'})∧
  (ca cfg o=1→out.H=st.heap∧∀X,(p8 cfg st.tmps (st.heap++X) o).ah {v:=out.v,H:=st.heap++X})∧(ca cfg o=2→∃X,out.H=st.heap++X):=fun h=>
  yv h
 unfold qn at h ⊢;split at h
 ·exact run h
 ·rename_i j want hg;split at h
  ·rename_i b hy;have UE:∀H':Heap cod,fC ops {tmps:=st.tmps,heap:=H'} j= .c (.bool b):=fun _=>hy;simp only [UE];split at h
   ·rename_i hb;simp only [hb,if_true];exact run h
   ·rename_i hb;simp only [hb,Bool.false_eq_true,if_false];subst h;exact ⟨fun _=>rfl,fun _=>⟨rfl,fun _=>rfl⟩,fun _=>⟨rfl,fun _=>rfl⟩,fun _=>⟨[],by simp⟩⟩
  ·rename_i hy;have UE:∀H':Heap cod,fC ops {tmps:=st.tmps,heap:=H'} j= .c (.raw (.tuple ⟨[]⟩)):=fun _=>hy;simp only [UE];subst h;exact ⟨fun _=>rfl,fun _=>⟨rfl,fun _=>rfl⟩,fun _=>⟨rfl,fun _=>rfl⟩,fun _=>⟨[],by simp⟩⟩
  ·exact h.elim
theorem bW {st:St cod} {d:Option Nat} {out:Out cod} (h:out.kill=[]):st.put d out={tmps:=match d with | none=>st.tmps | some d=>st.tmps.set d out.v,heap:=out.H}:=by
 unfold St.put;simp only [h];cases d<;>rfl
theorem qk {cfg:aT cod} {ops:Array Oper} {oi oj:Oper} {st s1 s2:St cod} (h1:aZ cfg ops oi st s1) (h2:aZ cfg ops oj s1 s2) (vV:oi.apart ops oj=true) (hc:kq (ca cfg oi) (ca cfg oj)=true):
 ∃t1,aZ cfg ops oj st t1∧aZ cfg ops oi t1 s2:=by
 obtain ⟨a1,a2,a3⟩:=Oper.apart_spec vV;obtain ⟨rF,e1,rfl⟩:=cX.1 h1;obtain ⟨tP,e2,rfl⟩:=cX.1 h2;obtain ⟨i3,i0,i1,i2⟩:=rf e1;have hki:ca cfg oi≤3:=by unfold kq at hc;simp at hc;omega
 have hkj:ca cfg oj≤3:=by unfold kq at hc;simp at hc;omega
 have ki:=i3 hki;rw [bW ki] at e2 ⊢;have M1:=(jg (cfg:=cfg) (st:=⟨st.tmps,rF.H⟩) (d:=oi.dst) (v:=rF.v) rfl a1).1 e2;obtain ⟨j3,j0,j1,j2⟩:=rf M1;have kj:=j3 hkj;rw [bW kj]
 have key:∃nI,qn cfg ops oj st nI∧nI.v=tP.v∧nI.kill=[]∧∃tO,qn cfg ops oi ⟨st.tmps,nI.H⟩ tO∧tO.v=rF.v∧tO.kill=[]∧tO.H=tP.H:=by
  have hcc:(ca cfg oi=0)∨(ca cfg oj=0)∨(ca cfg oi=1∧(ca cfg oj=1∨ca cfg oj=2)):=by
   unfold kq at hc;simp at hc;omega
  rcases hcc with hc | hc | ⟨hc,cY⟩
  ·obtain ⟨p1,p2⟩:=i0 hc;rw [p1] at M1;exact ⟨tP,M1,rfl,kj,{v:=rF.v,H:=tP.H},p2 _,rfl,rfl,rfl⟩
  ·obtain ⟨p1,p2⟩:=j0 hc;exact ⟨{v:=tP.v,H:=st.heap},p2 _,rfl,rfl,rF,e1,rfl,ki,by rw [p1]⟩
  ·obtain ⟨p1,p2⟩:=i1 hc;rw [p1] at M1 j1 j2;rcases cY with cY | cY
   ·obtain ⟨q1,_⟩:=j1 cY;refine ⟨tP,M1,rfl,kj,rF,?_,rfl,ki,by rw [p1,q1]⟩;rw [q1];exact e1
   ·obtain ⟨X,hX⟩:=j2 cY;refine ⟨tP,M1,rfl,kj,{v:=rF.v,H:=tP.H},?_,rfl,rfl,rfl⟩;rw [hX];exact p2 X
 obtain ⟨nI,f1,f2,f3,tO,g1,g2,g3,g4⟩:=key;refine ⟨_,cX.2 ⟨nI,f1,rfl⟩,cX.2 ⟨tO,?_,?_⟩⟩
 ·rw [bW f3];exact (jg (cfg:=cfg) (st:=⟨st.tmps,nI.H⟩) (d:=oj.dst) (v:=nI.v) rfl a3).2 g1
 ·rw [bW g3,bW f3,g4,g2,f2];congr 1
  cases hdi:oi.dst with
  | none=>rfl
  | some di=>
    cases hdj:oj.dst with
    | none=>rfl
    | some dj=>
      simp only;exact List.set_comm _ _ (fun e=>a2 di hdi (by rw [hdj,e]))
def z8 (a b tm:List SV):Prop:=∀t,tm.getD t (.c .eJ)=a.getD t (.c .eJ)∨tm.getD t (.c .eJ)=b.getD t (.c .eJ)
def nA (a b:List SV) (x:Operand):List Nat:=(cD a x).hs++(cD b x).hs
def VS (a b:List SV) (o:Oper):Option (List Nat):=
 match o.op with
 | .load _ x=>some (nA a b x)
 | .slice _ x _ _ _=>some (nA a b x)
 | .indexAddr _ x _=>some (nA a b x)
 | .convert _ _ x=>some (nA a b x)
 | .call c=>if (c.args.toList.all fun x=>(nA a b x).isEmpty)=true then some [] else none
 | _=>none
def ET (cfg:aT cod) (a b:List SV) (o:Oper):Option (List Nat):=
 match o.op with
 | .store _ x _=>some (nA a b x)
 | .alloc _ | .box _ _=>(o.dst.bind cfg.place).map fun k=>[k]
 | _=>none
def JI:Option (List Nat)→Option (List Nat)→Bool
 | some l,some m=>l.all fun x=>!m.contains x
 | _,_=>false
def jQ (cfg:aT cod) (a b:List SV) (o:Oper):Option (List Nat):=if b7 o=true then (o.dst.bind cfg.place).map fun k=>k::(pk a o++pk b o) else ET cfg a b o
def mu (a b:List SV) (o:Oper):Option (List Nat):=
 if b7 o=true then (match o.op with
  | .call {args,.. }=>some (args.toList.flatMap (nA a b))
  | _=>some [])
 else match o.op with
  | .store _ _ _ | .alloc _ | .box _ _=>some []
  | _=>VS a b o
def Jd (cfg:aT cod) (a b:List SV) (oi oj:Oper):Bool:=
 (ca cfg oi==1&&ca cfg oj==3&&JI (mu a b oi) (jQ cfg a b oj))||(ca cfg oi==3&&ca cfg oj==1&&JI (jQ cfg a b oi) (mu a b oj))||
   (ca cfg oi==3&&ca cfg oj==3&&(JI (jQ cfg a b oi) (jQ cfg a b oj)&&(JI (mu a b oi) (jQ cfg a b oj)&&JI (jQ cfg a b oi) (mu a b oj))))
theorem pP {a b tm:List SV} (h:z8 a b tm) (x:Operand):∀k∈(cD tm x).hs,k∈nA a b x:=by
 intro k hk;unfold nA
 cases x with
 | tmp t=>
   simp only [cD] at hk ⊢;rcases h t with e | e
   ·rw [e] at hk;exact List.mem_append_left _ hk
   ·rw [e] at hk
    exact List.mem_append_right _ hk
 | const v=>exact List.mem_append_left _ hk
 | global g=>exact List.mem_append_left _ hk
 | func f=>exact List.mem_append_left _ hk
theorem X5 {a b tm:List SV} (hB:z8 a b tm) (o:Oper):∀k∈pk tm o,k∈pk a o++pk b o:=by
 intro k hk
 have key:∀x:Operand,cD tm x=cD a x∨cD tm x=cD b x:=fun x=>by
  cases x with
  | tmp t=>exact hB t
  | _=>exact .inl rfl
 unfold pk at hk;split at hk
 ·rename_i args Oz e;split at hk
  ·rename_i h n x he;rw [List.mem_singleton] at hk;subst hk
   obtain ⟨p,q,hp⟩:∃p q,args.toList=[p,q]:=by
    have hl:args.toList.length=2:=by simpa using congrArg List.length he
    cases gP:args.toList with
    | nil=>rw [gP] at hl;cases hl
    | cons p ps=>
      cases ps with
      | nil=>rw [gP] at hl;simp at hl
      | cons q qs=>
        cases qs with
        | nil=>exact ⟨p,q,rfl⟩
        | cons _ _=>rw [gP] at hl;simp at hl
   rw [hp] at he;simp only [List.map_cons,List.map_nil,List.cons.injEq,and_true] at he
   have mk:∀c:List SV,cD tm p=cD c p→k∈pk c o:=fun c hc=>by
    unfold pk;rw [e];simp only [hp,List.map_cons,List.map_nil,←hc,he.1,List.mem_singleton]
   rcases key p with g | g
   ·exact List.mem_append_left _ (mk a g)
   ·exact List.mem_append_right _ (mk b g)
  ·cases hk
 ·cases hk
def jU (H:Heap cod):List (Nat×av cod)→Heap cod
 | []=>H
 | p::ps=>jU (H.set p.1 p.2) ps
theorem fX {H:Heap cod} {j:Nat}:∀{ws:List (Nat×av cod)},(∀p∈ws,p.1≠j)→getObj (jU H ws) j=getObj H j:=by
 intro ws
 induction ws generalizing H with
 | nil=>intro _;rfl
 | cons p ps ih=>
   intro h;rw [jU,ih fun q hq=>h q (List.mem_cons_of_mem _ hq)];unfold getObj;simp only [List.getD];rw [List.getElem?_set_ne (h p (List.mem_cons_self ..))]
theorem WN {H:Heap cod} {k:Nat} {ob:av cod}:∀{ws:List (Nat×av cod)},(∀p∈ws,p.1≠k)→jU (H.set k ob) ws=(jU H ws).set k ob:=by
 intro ws
 induction ws generalizing H with
 | nil=>intro _;rfl
 | cons p ps ih=>
   intro h;rw [jU,jU,←ih fun q hq=>h q (List.mem_cons_of_mem _ hq),List.set_comm _ _ (h p (List.mem_cons_self ..))]
theorem QP {H:Heap cod} {ws:List (Nat×av cod)}:∀{vs:List (Nat×av cod)},(∀p∈ws,∀q∈vs,p.1≠q.1)→jU (jU H vs) ws=jU (jU H ws) vs:=by
 intro vs
 induction vs generalizing H with
 | nil=>intro _;rfl
 | cons q qs ih=>
   intro h;rw [jU,jU,ih fun p hp r hr=>h p hp r (List.mem_cons_of_mem _ hr),WN fun p hp=>h p hp q (List.mem_cons_self ..)]
theorem BJ {H H':Heap cod} {h i o n:Nat} (e:getObj H' h=getObj H h):fH H' h i o n=fH H h i o n:=by
 unfold fH;rw [e]
theorem Fv {x:SV} {h i n:Nat} {t:Bool} (e:mT x=some (h,i,n,t)):h∈x.hs:=by
 unfold mT at e;split at e<;>simp_all [SV.hs,Cell.hs]
theorem yr {P:Program} {H H':Heap cod} {t:TypeId} {x ix:SV} (e:∀k∈x.hs,getObj H' k=getObj H k):dw P H' t x ix=dw P H t x ix:=by
 unfold dw;split
 ·split
  ·rw [e _ (by simp [SV.hs,Cell.hs])]
  ·rfl
  ·rfl
 ·split
  ·rename_i h i n t' hs;rw [e _ (Fv hs)]
  ·rfl
 ·rfl
theorem Me {P:Program} {H H':Heap cod} {t:TypeId} {x:SV} {lo hi mx:Option SV} (e:∀k∈x.hs,getObj H' k=getObj H k):jM P H' t x lo hi mx=jM P H t x lo hi mx:=by
 unfold jM;split
 ·split
  ·unfold ug;split
   ·rename_i hh i;rw [e hh (by simp [SV.hs,Cell.hs])]
   ·rfl
  ·rfl
 ·rfl
 ·split
  ·rfl
  ·rename_i h i n t' hs;rw [e _ (Fv hs)]
 ·rfl
theorem Jp {cfg:aT cod} {H:Heap cod} {g:FuncId} {args:List SV} {out:Out cod} (No:(cfg.lB g).isSome=true) (ha:args.flatMap SV.hs=[]) (hq:cfg.quiet g=true) (h:(mh cfg H g args).ah out):out.H=H∧out.kill=[]∧∀H',(mh cfg H' g args).ah {v:=out.v,H:=H'}:=by
 have YZ:∀H:Heap cod,reach H 3 (dh [] (args.flatMap SV.hs))=[]:=fun H=>by rw [ha];rfl
 obtain ⟨s,hs⟩:=Option.isSome_iff_exists.1 No;unfold mh at h ⊢;simp only [hs] at h ⊢;unfold qK at h ⊢
 ·simp only [YZ] at h ⊢;simp only [ha,List.all_nil,and_self,if_true,List.map_nil,List.length_nil,Nat.zero_add] at h ⊢;rw [T.aw] at h;obtain ⟨⟨r,news⟩,hr,h⟩:=h;simp only at h;split at h
  ·rename_i hc;obtain ⟨h1,h2,h3⟩:=hc;have hn:=h3 hq;subst hn;rw [T.ad] at h;subst h;refine ⟨by simp,rfl,fun H'=>?_⟩;rw [T.aw];refine ⟨(r,[]),hr,?_⟩;rw [if_pos ⟨h1,h2,h3⟩,T.ad];simp only [List.map_nil,List.append_nil];congr 1;refine yy fun k hk=>?_;have:=List.all_eq_true.1 h2 k hk;simp at this
  ·exact h.elim
theorem ac1 {cfg:aT cod} {a b tm:List SV} {H:Heap cod} {o:Oper} {out:Out cod} {hs:List Nat} (hB:z8 a b tm) (hk:kindOf cfg o=1) (hr:VS a b o=some hs) (h:(iB cfg tm H o).ah out):
 out.H=H∧out.kill=[]∧∀H',(∀k∈hs,getObj H' k=getObj H k)→(iB cfg tm H' o).ah {v:=out.v,H:=H'}:=by
 have bG:∀{t:T SV} {t':Heap cod→T SV} {p:Heap cod→Prop},(∀H',p H'→t' H'=t)→(t.bind fun v=>T.ret ({v:=v,H:=H}:Out cod)).ah out→out.H=H∧out.kill=[]∧∀H',p H'→((t' H').bind fun v=>T.ret ({v:=v,H:=H'}:Out cod)).ah {v:=out.v,H:=H'}:=fun {t} {t'} {p} ht hh=>by
  rw [T.aw] at hh;obtain ⟨v,h1,h2⟩:=hh;rw [T.ad] at h2;subst h2;exact ⟨rfl,rfl,fun H' hp=>T.aw.2 ⟨v,by rw [ht H' hp];exact h1,rfl⟩⟩
 unfold iB at h ⊢;unfold kindOf at hk;unfold VS at hr
 cases ho:o.op with
 | load t x=>
   simp only [ho,Option.some.injEq] at h hr ⊢;subst hr;have hb:=pP hB x;split at h
   ·rename_i k i off e;rw [e] at hb;have oo:k∈nA a b x:=hb k (by simp [SV.hs,Cell.hs]);split at h
    ·rename_i Dx;simp only [Dx,if_true];exact bG (p:=fun H'=>∀k∈nA a b x,getObj H' k=getObj H k) (t':=fun H'=>(fH H' k i off (cfg.P.cellsOf t)).bind fun cs=>.ret (.agg cs)) (fun H' hp=>by rw [BJ (hp k oo)]) h
    ·rename_i Dx;split at h
     ·rename_i hu;simp only [Dx,hu,if_true,Bool.false_eq_true,if_false]
      exact bG (p:=fun H'=>∀k∈nA a b x,getObj H' k=getObj H k) (t':=fun H'=>(fH H' k i off 1).bind fun cs=>match cs with
       | [c]=>.ret (.c c)
       | _=>.fail) (fun H' hp=>by rw [BJ (hp k oo)];rfl) h
     ·exact h.elim
   ·split at h
    ·rename_i hc;simp only [if_pos hc];exact bG (p:=fun H'=>∀k∈nA a b x,getObj H' k=getObj H k) (t':=fun _=>Ra _) (fun H' hp=>rfl) h
    ·exact h.elim
   ·exact h.elim
 | slice t x lo hi mx=>
   simp only [ho,Option.some.injEq] at h hr ⊢;subst hr
   exact bG (p:=fun H'=>∀k∈nA a b x,getObj H' k=getObj H k) (fun H' hp=>Me fun k hk=>hp k (pP hB x k hk)) h
 | indexAddr t x ix=>
   simp only [ho,Option.some.injEq] at h hr ⊢;subst hr
   exact bG (p:=fun H'=>∀k∈nA a b x,getObj H' k=getObj H k) (fun H' hp=>yr fun k hk=>hp k (pP hB x k hk)) h
 | convert s d x=>
   simp only [ho,Option.some.injEq] at hr;subst hr
   have hb:eD cfg.P s d=2:=by
    simp only [ho] at hk;split at hk
    ·omega
    ·split at hk
     ·assumption
     ·omega
   simp only [ho,hb] at h ⊢
   exact bG (p:=fun H'=>∀k∈nA a b x,getObj H' k=getObj H k) (fun H' hp=>by
    unfold jL;split
    ·split
     ·rw [fQ fun k hk=>hp k (pP hB x k hk)]
     ·rfl
    ·rfl) h
 | call c=>
   obtain ⟨callee,args,ts⟩:=c;simp only [ho] at hr;split at hr
   ·rename_i iI;cases hr
    cases callee with
    | value f=>
      cases f with
      | func g=>
        simp only [ho] at hk h ⊢;by_cases vD:jY cfg.P g=true
        ·rw [if_pos vD] at hk;omega
        rw [if_neg vD] at hk;have No:(cfg.lB g).isSome=true:=by cases hx:(cfg.lB g).isSome<;>simp [hx] at hk;rfl
        have hq:cfg.quiet g=true:=by cases hx:cfg.quiet g<;>simp [hx,No] at hk;rfl
        simp only [cD,List.map_nil,List.append_nil,if_neg vD] at h ⊢
        have ha:(args.toList.map (cD tm)).flatMap SV.hs=[]:=by
         rw [List.flatMap_eq_nil_iff];intro v hv;obtain ⟨x,hx,rfl⟩:=List.mem_map.1 hv;have:=List.all_eq_true.1 iI x hx;rw [List.isEmpty_iff] at this;refine List.eq_nil_iff_forall_not_mem.2 fun k hk=>?_;have:=pP hB x k hk;simp_all
        obtain ⟨h1,h2,h3⟩:=Jp No ha hq h
        exact ⟨h1,h2,fun H' _=>h3 H'⟩
      | _=>simp only [ho] at hk;omega
    | builtin b=>simp only [ho] at hk;cases b<;>simp at hk
    | invoke r m=>simp only [ho] at hk;omega
   ·cases hr
 | _=>simp only [ho] at hr;cases hr
theorem Mq {H H1:Heap cod} {h i o:Nat} {xs:List Cell} (hh:(ky H h i o xs).ah H1):∃ob,H1=H.set h ob∧∀H',getObj H' h=getObj H h→(ky H' h i o xs).ah (H'.set h ob):=by
 unfold ky at hh ⊢;split at hh
 ·rename_i cs ty e;split at hh
  ·rename_i hc;rw [T.ad] at hh;subst hh;exact ⟨_,rfl,fun H' h'=>by rw [h',e];simp only;rw [if_pos hc];rfl⟩
  ·exact hh.elim
 ·rename_i t l ty e;split at hh
  ·rename_i hc;obtain ⟨h1,h2⟩:=hh;exact ⟨_,h2.symm,fun H' h'=>by rw [h',e];simp only;rw [if_pos hc];exact ⟨h1,rfl⟩⟩
  ·exact hh.elim
 ·rename_i t l ty e;split at hh
  ·rename_i hc;obtain ⟨h1,h2⟩:=hh;exact ⟨_,h2.symm,fun H' h'=>by rw [h',e];simp only;rw [if_pos hc];exact ⟨h1,rfl⟩⟩
  ·exact hh.elim
 ·rename_i pre t m l post ty e;split at hh
  ·rename_i hc;obtain ⟨h1,h2⟩:=hh;exact ⟨_,h2.symm,fun H' h'=>by rw [h',e];simp only;rw [if_pos hc];exact ⟨h1,rfl⟩⟩
  ·rename_i hn;split at hh
   ·rename_i hc;rw [T.ad] at hh;subst hh;exact ⟨_,rfl,fun H' h'=>by rw [h',e];simp only;rw [if_neg hn,if_pos hc];rfl⟩
   ·rename_i hn2;split at hh
    ·rename_i hc;rw [T.ad] at hh;subst hh;exact ⟨_,rfl,fun H' h'=>by rw [h',e];simp only;rw [if_neg hn,if_neg hn2,if_pos hc];rfl⟩
    ·exact hh.elim
 ·exact hh.elim
theorem ac2 {cfg:aT cod} {a b tm:List SV} {H:Heap cod} {o:Oper} {out:Out cod} {hs:List Nat} (hB:z8 a b tm) (hr:ET cfg a b o=some hs) (h:(iB cfg tm H o).ah out):
 out.kill=[]∧∃k∈hs,∃ob,out.H=H.set k ob∧∀H',getObj H' k=getObj H k→(iB cfg tm H' o).ah {v:=out.v,H:=H'.set k ob}:=by
 have mk:∀{ob:av cod},((o.dst.bind cfg.place).map fun k=>[k])=some hs→(iy cfg o.dst H ob).ah out→out.kill=[]∧∃k∈hs,∃Qd,out.H=H.set k Qd∧∀H',getObj H' k=getObj H k→(iy cfg o.dst H' ob).ah {v:=out.v,H:=H'.set k Qd}:=fun {ob} hr hm=>by
  obtain ⟨k,hk,rfl⟩:=Option.map_eq_some_iff.1 hr;obtain ⟨hh,rfl⟩:=pZ hk hm;refine ⟨rfl,k,List.mem_singleton.2 rfl,ob,rfl,fun H' h'=>?_⟩;unfold iy;rw [hk];simp only [h',hh,if_true];rfl
 unfold iB at h ⊢;unfold ET at hr
 cases ho:o.op with
 | store t x y=>
   simp only [ho,Option.some.injEq] at h hr ⊢;subst hr;have hb:=pP hB x;split at h
   ·rename_i k i off e;rw [e] at hb;have oo:k∈nA a b x:=hb k (by simp [SV.hs,Cell.hs]);split at h
    ·rename_i hc;rw [T.aw] at h;obtain ⟨H1,h1,h2⟩:=h;rw [T.ad] at h2;subst h2;obtain ⟨ob,h3,h4⟩:=Mq h1;refine ⟨rfl,k,oo,ob,h3,fun H' h'=>?_⟩;rw [if_pos hc,T.aw];exact ⟨_,h4 H' h',rfl⟩
    ·exact h.elim
   ·exact h.elim
 | alloc e=>
   simp only [ho] at h hr ⊢;split at h
   ·exact mk hr h
   ·exact h.elim
 | box e x=>
   simp only [ho] at h hr ⊢;split at h
   ·rename_i hc;simp only [hc,if_true];exact mk hr h
   ·exact h.elim
 | _=>simp only [ho] at hr;cases hr
theorem UT {cfg:aT cod} {a b tm:List SV} {H:Heap cod} {o:Oper} {out:Out cod} {hs:List Nat} (hB:z8 a b tm) (hk:ca cfg o=1) (hr:mu a b o=some hs) (h:(p8 cfg tm H o).ah out):
 out.H=H∧out.kill=[]∧∀H',(∀k∈hs,getObj H' k=getObj H k)→(p8 cfg tm H' o).ah {v:=out.v,H:=H'}:=by
 have hn:¬(b7 o=true∧(o.dst.bind cfg.place).isSome=true):=fun e=>by rw [uV e] at hk;cases hk
 obtain ⟨e1,e2⟩:=nD hn;rw [e1] at hk;rw [e2] at h;simp only [e2];refine ac1 hB hk ?_ h
 have hm:b7 o=false:=by
  cases hm:b7 o with
  | false=>rfl
  | true=>
    exfalso;unfold b7 at hm;unfold kindOf at hk;split at hm
    ·rename_i e;rw [e] at hk;cases hk
    ·rename_i e;rw [e] at hk;cases hk
    ·rename_i e;rw [e] at hk;cases hk
    ·cases hm
 unfold mu at hr;rw [hm] at hr;simp only [Bool.false_eq_true,if_false] at hr;unfold kindOf at hk;split at hr
 ·rename_i e;rw [e] at hk;cases hk
 ·rename_i e;rw [e] at hk;simp only at hk;split at hk<;>cases hk
 ·rename_i e;rw [e] at hk;simp only at hk;split at hk<;>cases hk
 ·exact hr
theorem UU {cfg:aT cod} {a b tm:List SV} {H:Heap cod} {o:Oper} {out:Out cod} {hs rs:List Nat} (hB:z8 a b tm) (hr:jQ cfg a b o=some hs) (hq:mu a b o=some rs) (h:(p8 cfg tm H o).ah out):
 out.kill=[]∧∃ws:List (Nat×av cod),(∀p∈ws,p.1∈hs)∧out.H=jU H ws∧∀H',(∀q∈rs,getObj H' q=getObj H q)→(∀p∈ws,getObj H' p.1=getObj H p.1)→(p8 cfg tm H' o).ah {v:=out.v,H:=jU H' ws}:=by
 unfold jQ at hr
 cases hm:b7 o with
 | true=>
   rw [hm,if_pos rfl] at hr;obtain ⟨k,hk,rfl⟩:=Option.map_eq_some_iff.1 hr
   have rd:∀H':Heap cod,(∀q∈rs,getObj H' q=getObj H q)→∀q∈cG tm o,getObj H' q=getObj H q:=fun H' g1 q Xw=>g1 q (by
    unfold mu at hq;rw [hm,if_pos rfl] at hq;unfold cG at Xw;split at Xw
    ·rename_i e;rw [e] at hq;simp only [Option.some.injEq] at hq;subst hq;obtain ⟨x,hx,hqx⟩:=List.mem_flatMap.1 Xw;exact List.mem_flatMap.2 ⟨x,hx,pP hB x q hqx⟩
    ·cases Xw)
   obtain ⟨h1,_,⟨ob,d,_,hd,h3,_,h5⟩ | ⟨h3,_,h5⟩⟩:=ou hm hk h;rotate_left 1
   ·have same:∀H':Heap cod,H'.set k (getObj H' k)=H':=fun H'=>by
     rcases Nat.lt_or_ge k H'.length with hl | hl
     ·unfold getObj;rw [List.getD,List.getElem?_eq_getElem hl];exact List.set_getElem_self hl
     ·exact List.set_eq_of_length_le hl
    refine ⟨h1,[(k,getObj H k)],fun p hp=>by rw [List.mem_singleton.1 hp];exact List.mem_cons_self ..,by rw [h3];exact (same H).symm,fun H' g1 g2=>?_⟩;have gk:=g2 (k,getObj H k) (by simp)
    have e:jU H' [(k,getObj H k)]=H':=by
     show H'.set k (getObj H k)=H';rw [←gk];exact same H'
    rw [e];exact h5 H' (rd H' g1) gk
   have hw:∀H':Heap cod,(mj H' d).set k ob=jU H' ((d.toList.map fun q=>(q,av.dead))++[(k,ob)]):=fun H'=>by
    cases d<;>rfl
   refine ⟨h1,(d.toList.map fun q=>(q,av.dead))++[(k,ob)],fun p hp=>?_,by rw [h3,hw],fun H' g1 g2=>?_⟩
   ·rcases List.mem_append.1 hp with hp | hp
    ·obtain ⟨q,hq,rfl⟩:=List.mem_map.1 hp;exact List.mem_cons_of_mem _ (X5 hB o q (hd q (by simpa using hq)).1)
    ·rw [List.mem_singleton.1 hp];exact List.mem_cons_self ..
   ·rw [←hw]
    exact h5 H' (rd H' g1) (g2 (k,ob) (by simp))
 | false=>
   rw [hm,if_neg (by simp)] at hr;simp only [dQ (cfg:=cfg) (o:=o) (.inl hm)] at h ⊢;obtain ⟨h1,k,hk,ob,h2,h3⟩:=ac2 hB hr h;refine ⟨h1,[(k,ob)],fun p hp=>by rw [List.mem_singleton.1 hp];exact hk,h2,fun H' _ g=>h3 H' (g (k,ob) (by simp))⟩
theorem xV {cfg:aT cod} {ops:Array Oper} {a b:List SV} {o:Oper} {st:St cod} {out:Out cod} {hs:List Nat} (hB:z8 a b st.tmps) (hk:ca cfg o=1) (hr:mu a b o=some hs) (h:qn cfg ops o st out):
 out.H=st.heap∧out.kill=[]∧∀H',(∀k∈hs,getObj H' k=getObj st.heap k)→qn cfg ops o ⟨st.tmps,H'⟩ {v:=out.v,H:=H'}:=by
 unfold qn at h ⊢;split at h
 ·exact UT hB hk hr h
 ·rename_i j want hg;split at h
  ·rename_i q hy;have UE:∀H':Heap cod,fC ops {tmps:=st.tmps,heap:=H'} j= .c (.bool q):=fun _=>hy;simp only [UE];split at h
   ·rename_i hb;simp only [hb,if_true];exact UT hB hk hr h
   ·rename_i hb;simp only [hb,Bool.false_eq_true,if_false];subst h;exact ⟨rfl,rfl,fun _ _=>rfl⟩
  ·rename_i hy;have UE:∀H':Heap cod,fC ops {tmps:=st.tmps,heap:=H'} j= .c (.raw (.tuple ⟨[]⟩)):=fun _=>hy;simp only [UE];subst h;exact ⟨rfl,rfl,fun _ _=>rfl⟩
  ·exact h.elim
theorem jh {cfg:aT cod} {ops:Array Oper} {a b:List SV} {o:Oper} {st:St cod} {out:Out cod} {hs rs:List Nat} (hB:z8 a b st.tmps) (hr:jQ cfg a b o=some hs) (hq:mu a b o=some rs) (h:qn cfg ops o st out):
 out.kill=[]∧((out.H=st.heap∧∀H',qn cfg ops o ⟨st.tmps,H'⟩ {v:=out.v,H:=H'})∨∃ws:List (Nat×av cod),(∀p∈ws,p.1∈hs)∧out.H=jU st.heap ws∧∀H',(∀q∈rs,getObj H' q=getObj st.heap q)→(∀p∈ws,getObj H' p.1=getObj st.heap p.1)→qn cfg ops o ⟨st.tmps,H'⟩ {v:=out.v,H:=jU H' ws}):=by
 unfold qn at h ⊢;split at h
 ·obtain ⟨h1,h2⟩:=UU hB hr hq h;exact ⟨h1,.inr h2⟩
 ·rename_i j want hg;split at h
  ·rename_i q hy;have UE:∀H':Heap cod,fC ops {tmps:=st.tmps,heap:=H'} j= .c (.bool q):=fun _=>hy;simp only [UE];split at h
   ·rename_i hb;simp only [hb,if_true];obtain ⟨h1,h2⟩:=UU hB hr hq h;exact ⟨h1,.inr h2⟩
   ·rename_i hb;simp only [hb,Bool.false_eq_true,if_false];subst h;exact ⟨rfl,.inl ⟨rfl,fun _=>rfl⟩⟩
  ·rename_i hy;have UE:∀H':Heap cod,fC ops {tmps:=st.tmps,heap:=H'} j= .c (.raw (.tuple ⟨[]⟩)):=fun _=>hy;simp only [UE];subst h;exact ⟨rfl,.inl ⟨rfl,fun _=>rfl⟩⟩
  ·exact h.elim
theorem fW {l m:Option (List Nat)} (h:JI l m=true):∃x y,l=some x∧m=some y∧∀k∈x,∀j∈y,k≠j:=by
 unfold JI at h;split at h
 ·rename_i x y;refine ⟨x,y,rfl,rfl,fun k hk j hj e=>?_⟩;subst e;have:=List.all_eq_true.1 h k hk;simp_all
 ·cases h
def Ht (tm:List SV) (d:Option Nat) (v:SV):List SV:=
 match d with
 | none=>tm
 | some d=>tm.set d v
theorem MW {a b tm:List SV} {di dj:Option Nat} {vi vj:SV} (hB:z8 a b tm) (_:∀d,di=some d→dj≠some d) (h2:z8 a b (Ht (Ht tm di vi) dj vj)):z8 a b (Ht tm dj vj):=by
 cases dj with
 | none=>exact hB
 | some e=>
   simp only [Ht] at h2 ⊢;intro t;by_cases he:e=t
   ·subst he;have:=h2 e
    cases di with
    | none=>exact this
    | some d=>
      simp only at this;rcases Nat.lt_or_ge e tm.length with hl | hl
      ·simp only [List.getD] at this ⊢;rw [List.getElem?_set_self (by simpa using hl)] at this;rw [List.getElem?_set_self hl];exact this
      ·simp only [List.getD] at this ⊢;rw [List.getElem?_eq_none (by simpa using hl)] at this ⊢;exact this
   ·have:=hB t;simp only [List.getD] at this ⊢;rw [List.getElem?_set_ne he];exact this
theorem H3 {cfg:aT cod} {ops:Array Oper} {a b:List SV} {oi oj:Oper} {st s1 s2:St cod} (hB:z8 a b st.tmps) (h1:aZ cfg ops oi st s1) (h2:aZ cfg ops oj s1 s2) (vV:oi.apart ops oj=true) (hc:Jd cfg a b oi oj=true):
 ∃t1,aZ cfg ops oj st t1∧aZ cfg ops oi t1 s2∧(z8 a b s2.tmps→z8 a b t1.tmps):=by
 obtain ⟨a1,a2,a3⟩:=Oper.apart_spec vV;obtain ⟨rF,e1,rfl⟩:=cX.1 h1;obtain ⟨tP,e2,rfl⟩:=cX.1 h2
 have rw3:∀{o:Oper} {x:List Nat},ca cfg o=3→jQ cfg a b o=some x→∃r,mu a b o=some r:=by
  intro o x hk hw;unfold jQ at hw;unfold mu
  cases hm:b7 o with
  | true=>
    simp only [if_true]
    split<;>exact ⟨_,rfl⟩
  | false=>
    rw [hm,if_neg (by simp)] at hw;simp only [Bool.false_eq_true,if_false];unfold ET at hw;split at hw
    ·exact ⟨_,rfl⟩
    ·exact ⟨_,rfl⟩
    ·exact ⟨_,rfl⟩
    ·cases hw
 unfold Jd at hc;simp only [Bool.or_eq_true,Bool.and_eq_true,beq_iff_eq] at hc
 have ki:rF.kill=[]:=by
  rcases hc with (⟨⟨c1,c2⟩,c3⟩ | ⟨⟨c1,c2⟩,c3⟩) | ⟨⟨c1,c2⟩,c3,c4,c5⟩
  ·obtain ⟨x,y,ex,ey,hd⟩:=fW c3;exact (xV hB c1 ex e1).2.1
  ·obtain ⟨x,y,ex,ey,hd⟩:=fW c3;obtain ⟨r,er⟩:=rw3 c1 ex;exact (jh hB ex er e1).1
  ·obtain ⟨x,y,ex,ey,hd⟩:=fW c3;obtain ⟨r,er⟩:=rw3 c1 ex;exact (jh hB ex er e1).1
 rw [bW ki] at e2 ⊢;have M1:=(jg (cfg:=cfg) (st:=⟨st.tmps,rF.H⟩) (d:=oi.dst) (v:=rF.v) rfl a1).1 e2
 have key:∃nI:Out cod,qn cfg ops oj st nI∧nI.v=tP.v∧nI.kill=[]∧tP.kill=[]∧∃tO:Out cod,qn cfg ops oi ⟨st.tmps,nI.H⟩ tO∧tO.v=rF.v∧tO.kill=[]∧tO.H=tP.H:=by
  rcases hc with (⟨⟨c1,c2⟩,c3⟩ | ⟨⟨c1,c2⟩,c3⟩) | ⟨⟨c1,c2⟩,c3,c4,c5⟩
  ·obtain ⟨x,y,ex,ey,hd⟩:=fW c3;obtain ⟨r,er⟩:=rw3 c2 ey;obtain ⟨i1,i2,i3⟩:=xV hB c1 ex e1;rw [i1] at M1;obtain ⟨j1,hj⟩:=jh (st:=⟨st.tmps,st.heap⟩) hB ey er M1;refine ⟨tP,M1,rfl,j1,j1,{v:=rF.v,H:=tP.H},i3 _ fun k hk=>?_,rfl,rfl,rfl⟩;rcases hj with ⟨h1,_⟩ | ⟨ws,hws,h1,_⟩
   ·rw [h1]
   ·rw [h1];exact fX fun p hp=>Ne.symm (hd k hk p.1 (hws p hp))
  ·obtain ⟨x,y,ex,ey,hd⟩:=fW c3;obtain ⟨r,er⟩:=rw3 c1 ex;obtain ⟨i1,hi⟩:=jh hB ex er e1;obtain ⟨j1,j2,j3⟩:=xV (st:=⟨st.tmps,rF.H⟩) hB c2 ey M1
   have aff:∀k∈y,getObj st.heap k=getObj rF.H k:=fun k hk=>by
    rcases hi with ⟨h1,_⟩ | ⟨ws,hws,h1,_⟩
    ·rw [h1]
    ·rw [h1];exact (fX fun p hp=>hd p.1 (hws p hp) k hk).symm
   exact ⟨{v:=tP.v,H:=st.heap},j3 _ aff,rfl,rfl,j2,rF,e1,rfl,ki,j1.symm⟩
  ·obtain ⟨x,y,ex,ey,hd⟩:=fW c3;obtain ⟨ri,y',eri,ey',hdr⟩:=fW c4;obtain ⟨x',rj,ex',erj,hdw⟩:=fW c5;rw [ey] at ey';rw [ex] at ex';cases ey';cases ex';obtain ⟨i1,hi⟩:=jh hB ex eri e1;obtain ⟨j1,hj⟩:=jh (st:=⟨st.tmps,rF.H⟩) hB ey erj M1;rcases hi with ⟨p1,p2⟩ | ⟨ws,hws,p1,p2⟩
   ·rw [p1] at M1;exact ⟨tP,M1,rfl,j1,j1,{v:=rF.v,H:=tP.H},p2 _,rfl,rfl,rfl⟩
   ·rcases hj with ⟨q1,q2⟩ | ⟨vs,ym,q1,q2⟩
    ·refine ⟨{v:=tP.v,H:=st.heap},q2 _,rfl,rfl,j1,rF,e1,rfl,ki,?_⟩;rw [q1]
    ·refine ⟨{v:=tP.v,H:=jU st.heap vs},q2 _ (fun q hq=>?_) (fun p hp=>?_),rfl,rfl,j1,{v:=rF.v,H:=jU (jU st.heap vs) ws},p2 _ (fun q hq=>?_) (fun p hp=>?_),rfl,rfl,?_⟩
     ·simp only [p1];exact (fX fun p hp=>hdw p.1 (hws p hp) q hq).symm
     ·simp only [p1];exact (fX fun r hr=>hd r.1 (hws r hr) p.1 (ym p hp)).symm
     ·exact fX fun p hp=>Ne.symm (hdr q hq p.1 (ym p hp))
     ·exact fX fun r hr=>Ne.symm (hd p.1 (hws p hp) r.1 (ym r hr))
     ·rw [q1];simp only [p1];exact QP fun p hp q hq=>hd p.1 (hws p hp) q.1 (ym q hq)
 obtain ⟨nI,f1,f2,f3,kj,tO,g1,g2,g3,g4⟩:=key;rw [bW kj];refine ⟨_,cX.2 ⟨nI,f1,rfl⟩,cX.2 ⟨tO,?_,?_⟩,?_⟩
 ·rw [bW f3];exact (jg (cfg:=cfg) (st:=⟨st.tmps,nI.H⟩) (d:=oj.dst) (v:=nI.v) rfl a3).2 g1
 ·rw [bW g3,bW f3,g4,g2,f2];congr 1
  cases hdi:oi.dst with
  | none=>rfl
  | some di=>
    cases hdj:oj.dst with
    | none=>rfl
    | some dj=>
      simp only;exact List.set_comm _ _ (fun e=>a2 di hdi (by rw [hdj,e]))
 ·rw [bW f3,f2];exact fun h2=>MW (di:=oi.dst) (vi:=rF.v) hB a2 h2
end
end Sym
end Go.Proofs.YtcjagpfbhnmggaaGreatDoor
