/- Parts of the proof. -/
import Derived.Test.YtcjagpfbhnmggaaGreatDoorBd10
namespace Go.Proofs.YtcjagpfbhnmggaaGreatDoor
namespace Sym
open Go.RowKit
section
variable {cod:Nat→aO} {P:Program} {env:Env} {N:Nat}
theorem dQ {cfg:aT cod} {tm:List SV} {H:Heap cod} {o:Oper} (h:b7 o=false∨o.dst.bind cfg.place=none):p8 cfg tm H o=iB cfg tm H o:=by
 unfold p8;split
 ·rename_i h1 h2;rcases h with h | h
  ·rw [h1] at h;cases h
  ·rw [h2] at h;cases h
 ·rfl
theorem lj {cfg:aT cod} {tm:List SV} {H:Heap cod} {o:Oper} {k:Nat} (h1:b7 o=true) (h2:o.dst.bind cfg.place=some k):p8 cfg tm H o=(iB cfg tm H o).bind (uW H k):=by
 unfold p8;rw [h1,h2]
theorem Qj (cfg:aT cod) {tm RE:List SV} (H:Heap cod) (o:Oper) (h:∀x∈o.op.operands.toList,cD tm x=cD RE x):p8 cfg tm H o=p8 cfg RE H o:=by
 unfold p8;rw [Qm cfg H o h]
theorem yB {H:Heap cod} {k:Nat} {out KB:Out cod} (h:(uW H k out).ah KB):(getObj H k).aV=true∧KB.kill=[]∧((out.kill=[]∧∃ob:av cod,out.H.drop H.length=[ob]∧ob.isRow=true∧KB.H=H.set k ob∧
 ((∃n t,out.v= .c (.ai H.length 0 n t)∧KB.v= .c (.ai k 0 n t))∨∃n,out.v= .c (.own H.length n)∧KB.v= .c (.own k n)))∨
 (∃q n,out.kill=[q]∧out.H.drop H.length=[]∧out.v= .c (.own q n)∧(getObj H q).bQ=true∧(getObj out.H q).bQ=true∧KB={v:=.c (.own k n),H:=(H.set q .dead).set k (getObj out.H q)})∨
 (out.kill=[]∧out.H.drop H.length=[]∧KB={v:=out.v,H:=H})):=by
 unfold uW at h;split at h
 ·rename_i ob hh n t hk hd hv;split at h
  ·rename_i hc;obtain ⟨rfl,kU,Dz⟩:=hc;rw [T.ad] at h;subst h;exact ⟨kU,rfl,.inl ⟨hk,ob,hd,Dz,rfl,.inl ⟨n,t,hv,rfl⟩⟩⟩
  ·exact h.elim
 ·rename_i ob hh n hk hd hv;split at h
  ·rename_i hc;obtain ⟨rfl,kU,Dz⟩:=hc;rw [T.ad] at h;subst h;exact ⟨kU,rfl,.inl ⟨hk,ob,hd,Dz,rfl,.inr ⟨n,hv,rfl⟩⟩⟩
  ·exact h.elim
 ·rename_i q hh n hk hd hv;split at h
  ·rename_i hc;obtain ⟨rfl,kU,Dz,hc4⟩:=hc;rw [T.ad] at h;subst h;exact ⟨kU,rfl,.inr (.inl ⟨q,n,hk,hd,hv,Dz,hc4,rfl⟩)⟩
  ·exact h.elim
 ·rename_i hh i n t hk hd hv;split at h
  ·rename_i hc;rw [T.ad] at h;subst h;exact ⟨hc,rfl,.inr (.inr ⟨hk,hd,by rw [hv]⟩)⟩
  ·exact h.elim
 ·exact h.elim
theorem nC {ob:av cod} (h:ob.isRow=true):ob.wr=true∧ob.hs=[]∧ob.aV=false:=by
 cases ob<;>simp [av.isRow] at h<;>exact ⟨rfl,rfl,rfl⟩
theorem NS {env aK:Env} {N N':Nat} {x:HV} {w:World} {M:Nat→Prop} {ob:av cod} (h:ob.isRow=true) (ho:bH env N x w M ob):bH aK N' x w M ob:=by
 cases ob<;>simp [av.isRow] at h<;>exact ho
theorem adt (c:Cell):c.gp (fun h=>h)=c:=by cases c<;>simp [Cell.gp]
theorem GP (o:av cod):o.aX (Cell.gp fun h=>h)=o:=by
 have e:(Cell.gp fun h=>h)=id:=funext adt;rw [e];cases o<;>simp [av.aX]
theorem Dc {c:Cell} {v:Value} (h:bZ env N c v):∀q∈c.hs,q < N:=by
 intro q hq;cases c<;>simp only [bZ,Cell.hs,List.mem_singleton,List.not_mem_nil] at h hq
 case ptr=>subst hq;exact h.1
 case ai=>subst hq;exact h.1
 case own=>subst hq;exact h.1
 case fn f dC=>
  obtain ⟨c,hc,rfl⟩:=List.mem_map.1 hq;exact h.1 c hc
theorem qM:∀{cs:List Cell} {vs:List Value},ct env N cs vs→∀q∈cs.flatMap Cell.hs,q < N
 | _,_,.nil,q,hq=>by cases hq
 | _,_,.cons h t,q,hq=>by
   rw [List.flatMap_cons] at hq;rcases List.mem_append.1 hq with h1 | h1
   ·exact Dc h q h1
   ·exact qM t q h1
theorem Qe {x:HV} {w:World} {M:Nat→Prop} {o:av cod} (h:bH env N x w M o):∀q∈o.hs,q < N:=by
 intro q hq
 cases o with
 | aF cs ty=>obtain ⟨_,_,vs,_,h4⟩:=h;exact qM h4 q hq
 | aY cs=>obtain ⟨_,_,vs,_,h4⟩:=h;exact qM h4 q hq
 | gL cs=>obtain ⟨_,_,vs,_,h4⟩:=h;exact qM h4 q hq
 | cj t LL js cs ty tyr=>
   obtain ⟨_,_,⟨_,hl⟩,⟨vs,_,_,h6⟩,_⟩:=h;obtain ⟨c,hc,hq⟩:=List.mem_flatMap.1 hq;obtain ⟨k,hk,rfl⟩:=List.getElem_of_mem hc;obtain ⟨v,_,hr⟩:=h6 k (js[k]'(by omega)) _ (List.getElem?_eq_getElem (by omega)) (List.getElem?_eq_getElem hk)
   exact Dc hr q hq
 | cL t LL op=>
   cases op with
   | none=>cases hq
   | some p=>
     obtain ⟨h1,vs,h2,h3,h4,h5,h6,h7⟩:=h;obtain ⟨v,_,hc⟩:=h7 p rfl
     exact Dc hc q hq
 | _=>cases hq
theorem fw.move {H H':Heap cod} {w w':World} {M:Nat→Prop} {k:Nat} {ob:av cod} {v0:SV} {v:Value} (cfg:aT cod) (G0:Good env H w M) (hT:mR cfg H k) (mq:∀o∈H,k∉o.hs) (hH:H'=H++[ob]) (fG:ob.isRow=true)
 (h:fw env H w M {v:=v0,H:=H'} v w'):
 (∀n t,v0= .c (.ai H.length 0 n t)→ss cfg env H w M {v:=.c (.ai k 0 n t),H:=H.set k ob} v w')∧(∀n,v0= .c (.own H.length n)→ss cfg env H w M {v:=.c (.own k n),H:=H.set k ob} v w'):=by
 subst hH;obtain ⟨aK,mz,_,hv,G,gY⟩:=h;have mz:∀j,j < H.length→aK j=env j:=fun j hj=>mz j hj (by simp);have hk:H[k]? =some (getObj H k):=dt (fun e=>by have:=hT.2;rw [e] at this;cases this);have cI:k < H.length:=(List.getElem?_eq_some_iff.1 hk).1;obtain ⟨hw,hhs,_⟩:=nC fG;have hn:(H++[ob])[H.length]? =some ob:=by simp
 have old:∀j a,j < H.length→H[j]? =some a→(H++[ob])[j]? =some a:=fun j a hj ha=>by rw [List.getElem?_append_left hj];exact ha
 have aL:∀j a,(H.set k ob)[j]? =some a→(j≠k∧j < H.length∧H[j]? =some a)∨(j=k∧a=ob):=by
  intro j a ha;by_cases e:j=k
  ·subst e;rw [List.getElem?_set_self cI] at ha;simp only [Option.some.injEq] at ha;exact .inr ⟨rfl,ha.symm⟩
  ·rw [List.getElem?_set_ne (by omega)] at ha;exact .inl ⟨e,(List.getElem?_eq_some_iff.1 ha).1,ha⟩
 let fp:Env:=aK.set k (aK H.length)
 have e2k:fp k=aK H.length:=Env.aU _ _ _;have e2j:∀j,j≠k→fp j=aK j:=fun j hj=>Env.aD _ _ hj
 have hG:Good fp (H.set k ob) w' M:=by
  refine ⟨fun j a ha=>?_,fun j j' a a' b bP ha Pq uS hb eG=>?_,G.sr⟩
  ·rw [List.length_set];rcases aL j a ha with ⟨bP,hj,h1⟩ | ⟨rfl,rfl⟩
   ·rw [e2j j bP];have h2:=G.obj j a (old j a hj h1);rw [List.length_append,List.length_singleton] at h2;have YV:=Qe (G0.obj j a h1);have h3:=nG (f:=Cell.gp fun h=>h) (aK:=fp) (N':=H.length) (fun c hc v Rq=>jC (fun q hq _=>⟨YV q (hc q hq),e2j q (fun e=>mq a (List.mem_of_getElem? h1) (by rw [←e];exact hc q hq))⟩) Rq) h2
    rwa [GP] at h3
   ·rw [e2k];exact NS fG (G.obj H.length _ hn)
  ·rcases aL j a ha with ⟨h1,hj,h2⟩ | ⟨rfl,rfl⟩<;>rcases aL j' a' Pq with ⟨jj,EX,oQ⟩ | ⟨rfl,rfl⟩
   ·rw [e2j j h1] at hb;rw [e2j j' jj] at eG;exact G.sep j j' a a' b bP (old j a hj h2) (old j' a' EX oQ) uS hb eG
   ·rw [e2j j h1] at hb;rw [e2k] at eG;exact G.sep j H.length a _ b (by omega) (old j a hj h2) hn uS hb eG
   ·rw [e2k] at hb;rw [e2j j' jj] at eG;exact G.sep H.length j' _ a' b (by omega) hn (old j' a' EX oQ) uS hb eG
   ·exact bP rfl
 have he:∀q,q < H.length→¬mR cfg H q→fp q=env q:=fun q hq ht=>by
  rw [e2j q (fun e=>ht (by rw [e];exact hT))];exact mz q hq
 refine ⟨fun n t hvt=>?_,fun n hvn=>?_⟩
 ·subst hvt;refine ⟨fp,fun q hq _ ht=>he q hq ht,by simp,?_,hG,gY⟩;obtain ⟨_,A,c,g1,g2,g3,g4,g5⟩:=hv;simp only [List.length_set];exact ⟨cI,A,c,g1,g2,g3,g4,by rw [e2k];exact g5⟩
 ·subst hvn;refine ⟨fp,fun q hq _ ht=>he q hq ht,by simp,?_,hG,gY⟩;obtain ⟨_,g0,A,c,g1,g2,g3,g4⟩:=hv;simp only [List.length_set];exact ⟨cI,by rw [e2k];exact g0,A,c,g1,g2,g3,by rw [e2k];exact g4⟩
theorem fQ {u:Nat} {H H':Heap cod} {x:SV} (e:∀q∈x.hs,getObj H' q=getObj H q):rowsOf u H' x=rowsOf u H x:=by
 unfold rowsOf;split
 ·rw [e _ (by simp [SV.hs,Cell.hs])]
 ·rw [e _ (by simp [SV.hs,Cell.hs])]
 ·rfl
theorem Ad {cfg:aT cod} {H:Heap cod} {e:TypeId} {s x:SV} {out:Out cod} (h:(fk cfg H e s x).ah out):
 ∃(ob:av cod) (n:Nat),out={v:=.c (.ai H.length 0 n false),H:=H++[ob]}∧∀H':Heap cod,(∀q∈s.hs++x.hs,getObj H' q=getObj H q)→(fk cfg H' e s x).ah {v:=.c (.ai H'.length 0 n false),H:=H'++[ob]}:=by
 unfold fk at h;split at h
 ·rename_i hh i n tt;split at h
  ·rename_i cs hf;split at h
   ·rename_i hc;rw [T.ad] at h;subst h;refine ⟨_,n,rfl,fun H' EW=>?_⟩;have e1:getObj H' hh=getObj H hh:=EW hh (by simp [SV.hs,Cell.hs]);unfold fk;simp only [e1,hf];rw [if_pos hc];rfl
   ·exact h.elim
  ·exact h.elim
 ·exact h.elim
theorem CX {cfg:aT cod} {H:Heap cod} {t:TypeId} {s x:SV} {out:Out cod} (h:(dA cfg H t s x).ah out) (hN:∀e,cfg.P.underlying t=some (.slice e)→cfg.tv e≠none) (hk:out.kill=[]) (hd:out.H.drop H.length≠[]):
 ∃(ob:av cod) (n:Nat),out={v:=.c (.own H.length n),H:=H++[ob]}∧∀H':Heap cod,(∀q∈s.hs++x.hs,getObj H' q=getObj H q)→(dA cfg H' t s x).ah {v:=.c (.own H'.length n),H:=H'++[ob]}:=by
 unfold dA at h ⊢;split at h
 ·rename_i e ht;split at h
  ·rename_i YQ;exact absurd YQ (hN _ ht)
  ·rename_i u hu;split at h
   ·rename_i hc;rw [T.aw] at h;obtain ⟨l',gP,h⟩:=h;split at h
    ·rename_i hh n;split at h
     ·split at h
      ·split at h
       ·rw [T.ak,T.ad] at h;obtain ⟨_,rfl⟩:=h;simp at hk
       ·exact h.elim
      ·exact h.elim
     ·exact h.elim
    ·rename_i hh i0 n;by_cases rq:cfg.emp=true
     ·rw [if_pos rq,T.ak,T.ad] at h;obtain ⟨_,rfl⟩:=h;simp at hd
     rw [if_neg rq] at h;rcases gJ h with ⟨_,rfl⟩ | h
     ·simp at hd
     rw [T.aw] at h;obtain ⟨l,hl,h⟩:=h;rw [T.ak,T.ad] at h;obtain ⟨hp,rfl⟩:=h;refine ⟨_,_,rfl,fun H' EW=>?_⟩;simp only [hc,and_self,if_true,rq,Bool.false_eq_true,if_false];rw [T.aw];refine ⟨l',by rw [fQ fun q hq=>EW q (List.mem_append_right _ hq)];exact gP,?_⟩;refine Qo ?_ hp.1;rw [T.aw];refine ⟨l,by rw [fQ fun q hq=>EW q (List.mem_append_left _ hq)];exact hl,?_⟩;rw [T.ak,T.ad];exact ⟨hp,rfl⟩
    ·have h2:=h;obtain ⟨_,rfl⟩:=jK h;refine ⟨_,_,rfl,fun H' EW=>?_⟩;simp only [hc,and_self,if_true];rw [T.aw];refine ⟨l',by rw [fQ fun q hq=>EW q (List.mem_append_right _ hq)];exact gP,?_⟩;exact Zr _ h2
    ·exact h.elim
   ·exact h.elim
 ·exact h.elim
def cG (tm:List SV) (o:Oper):List Nat:=
 match o.op with
 | .call {args,.. }=>args.toList.flatMap fun x=>(cD tm x).hs
 | _=>[]
theorem uX {cfg:aT cod} {tm:List SV} {H:Heap cod} {o:Oper} {out:Out cod} (hm:b7 o=true) (h:(iB cfg tm H o).ah out) (hk:out.kill=[]) (hd:out.H.drop H.length≠[]):
 ∃(ob:av cod) (mk:Nat→SV),out={v:=mk H.length,H:=H++[ob]}∧((∃n t,mk=fun h=>.c (.ai h 0 n t))∨∃n,mk=fun h=>.c (.own h n))∧
  ∀H':Heap cod,(∀q∈cG tm o,getObj H' q=getObj H q)→(iB cfg tm H' o).ah {v:=mk H'.length,H:=H'++[ob]}:=by
 unfold b7 at hm;unfold iB at h ⊢
 cases ho:o.op with
 | buildSlice t n parts=>
   simp only [ho] at h ⊢;split at h
   ·rename_i e ht;split at h
    ·rename_i cs u hf hu;split at h
     ·rename_i l hl;split at h
      ·rename_i hc;rw [gh,T.ad] at h;subst h;refine ⟨_,fun h=>.c (.ai h 0 n true),rfl,.inl ⟨n,true,rfl⟩,fun H' _=>?_⟩;rw [if_pos hc];rfl
      ·exact h.elim
     ·exact h.elim
    ·rename_i cs hf hu;split at h
     ·rename_i hc;rw [gh,T.ad] at h;subst h;refine ⟨_,fun h=>.c (.ai h 0 n true),rfl,.inl ⟨n,true,rfl⟩,fun H' _=>?_⟩;rw [if_pos hc];rfl
     ·exact h.elim
    ·exact h.elim
   ·exact h.elim
 | makeSlice t n c=>
   simp only [ho] at h ⊢;split at h
   ·split at h
    ·split at h
     ·rename_i hc;rw [gh,T.ak,T.ad] at h;obtain ⟨hp,rfl⟩:=h;refine ⟨_,fun h=>.c (.ai h 0 _ true),rfl,.inl ⟨_,true,rfl⟩,fun H' _=>?_⟩;rw [if_pos hc,gh,T.ak,T.ad];exact ⟨hp,rfl⟩
     ·exact h.elim
    ·exact h.elim
   ·exact h.elim
 | call c=>
   obtain ⟨callee,args,argTypes⟩:=c
   cases callee with
   | builtin b=>
     cases b with
     | append=>
       have acJ:∀q,q∈cG tm o↔q∈args.toList.flatMap fun x=>(cD tm x).hs:=fun q=>by unfold cG;rw [ho]
       simp only [ho] at h ⊢;unfold dc at h ⊢;split at h
       ·contradiction
       ·contradiction
       ·contradiction
       ·rename_i s x _ aJ;split at h
        ·rename_i t t' h1 h2;split at h
         ·rename_i Y1
          have Rv:∀q,q∈s.hs++x.hs→q∈cG tm o:=fun q hq=>by
           refine (acJ q).2 ?_;have:(args.toList.map (cD tm)).flatMap SV.hs=s.hs++x.hs:=by rw [aJ];simp
           rw [List.flatMap_map] at this;rw [this];exact hq
          by_cases hN:∃e,cfg.P.underlying t=some (.slice e)∧cfg.tv e=none
          ·obtain ⟨e,he,pe⟩:=hN;have hS:∀H':Heap cod,dA cfg H' t s x=fk cfg H' e s x:=fun H'=>by unfold dA;simp only [he,pe]
           rw [hS] at h;obtain ⟨ob,n,rfl,hl⟩:=Ad h;refine ⟨ob,fun h=>.c (.ai h 0 n false),rfl,.inl ⟨n,false,rfl⟩,fun H' EW=>?_⟩;simp only [Y1,if_true];rw [←Y1,hS];exact hl H' fun q hq=>EW q (Rv q hq)
          ·obtain ⟨ob,n,rfl,hl⟩:=CX h (fun e he pe=>hN ⟨e,he,pe⟩) hk hd;refine ⟨ob,fun h=>.c (.own h n),rfl,.inr ⟨n,rfl⟩,fun H' EW=>?_⟩;simp only [Y1,if_true];rw [←Y1];exact hl H' fun q hq=>EW q (Rv q hq)
         ·exact h.elim
        ·exact h.elim
       ·contradiction
       ·contradiction
       ·exact h.elim
     | _=>rw [ho] at hm;cases hm
   | _=>rw [ho] at hm;cases hm
 | _=>rw [ho] at hm;cases hm
theorem pj {o:Oper} (h:b7 o=true):fJ o=false:=by
 unfold b7 at h;unfold fJ;split at h<;>simp_all
theorem tG {cfg:aT cod} {H:Heap cod} {d:Option Nat} {k:Nat} (hp:d.bind cfg.place=some k) (hh:(getObj H k).aV=true):mR cfg H k:=by
 obtain ⟨e,_,hd⟩:=Option.bind_eq_some_iff.1 hp;exact ⟨⟨e,hd⟩,hh⟩
theorem BE {ob:av cod} (h:ob.bQ=true):ob.isRow=true:=by cases ob<;>simp [av.bQ] at h<;>rfl
theorem yt {ob:av cod} (h:ob.bQ=true):ob.aV=false:=(nC (BE h)).2.2
def mj (H:Heap cod):Option Nat→Heap cod
 | none=>H
 | some q=>H.set q .dead
theorem Dd (H:Heap cod) (d:Option Nat):(mj H d).length=H.length:=by cases d<;>simp [mj]
theorem BO {cfg:aT cod} {tm:List SV} {H:Heap cod} {o:Oper} {out:Out cod} {q:Nat} (hm:b7 o=true) (h:(iB cfg tm H o).ah out) (hk:out.kill=[q]):
 ∃args Oz,o.op= .call ⟨.builtin .append,args,Oz⟩∧∃n x t,args.toList.map (cD tm)=[.c (.own q n),x]∧Oz[0]? =some t∧Oz[1]? =some t∧(dA cfg H t (.c (.own q n)) x).ah out:=by
 unfold b7 at hm;unfold iB at h
 cases ho:o.op with
 | buildSlice t n parts=>
   exfalso;simp only [ho] at h;split at h
   ·split at h
    ·split at h
     ·split at h
      ·rw [gh,T.ad] at h;subst h;cases hk
      ·exact h.elim
     ·exact h.elim
    ·split at h
     ·rw [gh,T.ad] at h;subst h;cases hk
     ·exact h.elim
    ·exact h.elim
   ·exact h.elim
 | makeSlice t n c=>
   exfalso;simp only [ho] at h;split at h
   ·split at h
    ·split at h
     ·rw [gh,T.ak,T.ad] at h;obtain ⟨_,rfl⟩:=h;cases hk
     ·exact h.elim
    ·exact h.elim
   ·exact h.elim
 | call c=>
   obtain ⟨callee,args,Oz⟩:=c
   cases callee with
   | builtin b=>
     cases b with
     | append=>
       simp only [ho] at h;unfold dc at h;split at h
       ·contradiction
       ·contradiction
       ·contradiction
       ·rename_i s x _ aJ;split at h
        ·rename_i t t' h1 h2;split at h
         ·rename_i Y1;subst Y1
          have hsx:∃n,s= .c (.own q n):=by
           have h':=h;unfold dA at h';split at h'
           ·split at h'
            ·unfold fk at h';split at h'
             ·split at h'
              ·split at h'
               ·rw [T.ad] at h';subst h';cases hk
               ·exact h'.elim
              ·exact h'.elim
             ·exact h'.elim
            ·split at h'
             ·rw [T.aw] at h';obtain ⟨l',gP,h'⟩:=h';split at h'
              ·rename_i hh n;split at h'
               ·split at h'
                ·split at h'
                 ·rw [T.ak,T.ad] at h';obtain ⟨_,rfl⟩:=h';simp only [List.cons.injEq,and_true] at hk;exact ⟨n,by rw [hk]⟩
                 ·exact h'.elim
                ·exact h'.elim
               ·exact h'.elim
              ·split at h'
               ·rw [T.ak,T.ad] at h';obtain ⟨_,rfl⟩:=h';cases hk
               ·rcases gJ h' with ⟨_,rfl⟩ | h'
                ·cases hk
                rw [T.aw] at h';obtain ⟨l,_,h'⟩:=h';rw [T.ak,T.ad] at h';obtain ⟨_,rfl⟩:=h';cases hk
              ·obtain ⟨_,rfl⟩:=jK h';cases hk
              ·exact h'.elim
             ·exact h'.elim
           ·exact h'.elim
          obtain ⟨n,rfl⟩:=hsx;exact ⟨args,Oz,rfl,n,x,t,aJ,h1,h2,h⟩
         ·exact h.elim
        ·exact h.elim
       ·contradiction
       ·contradiction
       ·exact h.elim
     | _=>rw [ho] at hm;cases hm
   | _=>rw [ho] at hm;cases hm
 | _=>rw [ho] at hm;cases hm
theorem th {cfg:aT cod} {H:Heap cod} {t:TypeId} {q n:Nat} {x:SV} {out:Out cod} (h:(dA cfg H t (.c (.own q n)) x).ah out):
 ∃(ob:av cod) (n':Nat),out={v:=.c (.own q n'),H:=(H.set q ob).map (av.aX (Cell.bR [q])),kill:=[q]}∧ob.bQ=true∧(getObj H q).bQ=true∧getObj out.H q=ob∧
  ∀H':Heap cod,(∀j∈q::x.hs,getObj H' j=getObj H j)→(dA cfg H' t (.c (.own q n)) x).ah {v:=.c (.own q n'),H:=(H'.set q ob).map (av.aX (Cell.bR [q])),kill:=[q]}∧getObj ((H'.set q ob).map (av.aX (Cell.bR [q]))) q=ob:=by
 unfold dA at h ⊢;split at h
 ·rename_i e ht;split at h
  ·unfold fk at h;split at h
   ·rename_i e0;cases e0
   ·exact h.elim
  ·rename_i u hu;split at h
   ·rename_i hc;rw [T.aw] at h;obtain ⟨l',gP,h⟩:=h;simp only at h;split at h
    ·rename_i u' l ty ho;split at h
     ·rename_i vW;subst vW;split at h
      ·rename_i Np;rw [T.ak,T.ad] at h;obtain ⟨hp,rfl⟩:=h
       have gt:∀H':Heap cod,getObj H' q=getObj H q→getObj ((H'.set q (.own u' (l++l') e)).map (av.aX (Cell.bR [q]))) q= .own u' (l++l') e:=fun H' hq=>by
        rw [ho] at hq;have dN:=aE hq (by simp);refine cK ?_;rw [List.getElem?_map,List.getElem?_set_self (List.getElem?_eq_some_iff.1 dN).1];rfl
       refine ⟨.own u' (l++l') e,n+l'.length,rfl,rfl,by rw [ho];rfl,gt H rfl,fun H' EW=>⟨?_,gt H' (EW q (List.mem_cons_self ..))⟩⟩;simp only [hc,and_self,if_true];rw [T.aw];refine ⟨l',by rw [fQ fun j hj=>EW j (List.mem_cons_of_mem _ hj)];exact gP,?_⟩;have e1:getObj H' q= .own u' l ty:=by rw [EW q (List.mem_cons_self ..)];exact ho
       simp only [e1,Np,if_true,dite_true];rw [T.ak,T.ad];exact ⟨hp,rfl⟩
      ·exact h.elim
     ·exact h.elim
    ·exact h.elim
   ·exact h.elim
 ·exact h.elim
theorem yC {cfg:aT cod} {tm:List SV} {H:Heap cod} {o:Oper} {out:Out cod} (hm:b7 o=true) (h:(iB cfg tm H o).ah out) (hk:out.kill=[]) (hd:out.H.drop H.length=[]):
 out.H=H∧(∀q∈out.v.hs,q∈cG tm o)∧∀H':Heap cod,(∀q∈cG tm o,getObj H' q=getObj H q)→(iB cfg tm H' o).ah {v:=out.v,H:=H'}:=by
 have Qc:∀(ob:av cod),out.H=H++[ob]→False:=fun ob e=>by rw [e] at hd;simp at hd
 unfold b7 at hm;unfold iB at h ⊢
 cases ho:o.op with
 | buildSlice t n parts=>
   exfalso;simp only [ho] at h;split at h
   ·split at h
    ·split at h
     ·split at h
      ·rw [gh,T.ad] at h;subst h;exact Qc _ rfl
      ·exact h.elim
     ·exact h.elim
    ·split at h
     ·rw [gh,T.ad] at h;subst h;exact Qc _ rfl
     ·exact h.elim
    ·exact h.elim
   ·exact h.elim
 | makeSlice t n c=>
   exfalso;simp only [ho] at h;split at h
   ·split at h
    ·split at h
     ·rw [gh,T.ak,T.ad] at h;obtain ⟨_,rfl⟩:=h;exact Qc _ rfl
     ·exact h.elim
    ·exact h.elim
   ·exact h.elim
 | call c=>
   obtain ⟨callee,args,Oz⟩:=c
   cases callee with
   | builtin b=>
     cases b with
     | append=>
       have acJ:∀q,q∈cG tm o↔q∈args.toList.flatMap fun x=>(cD tm x).hs:=fun q=>by unfold cG;rw [ho]
       simp only [ho] at h ⊢;unfold dc at h ⊢;split at h
       ·contradiction
       ·contradiction
       ·contradiction
       ·rename_i s x _ aJ;split at h
        ·rename_i t t' h1 h2;split at h
         ·rename_i Y1
          have Rv:∀q,q∈s.hs++x.hs→q∈cG tm o:=fun q hq=>by
           refine (acJ q).2 ?_;have:(args.toList.map (cD tm)).flatMap SV.hs=s.hs++x.hs:=by rw [aJ];simp
           rw [List.flatMap_map] at this;rw [this];exact hq
          simp only [Y1,if_true];rw [←Y1];unfold dA at h ⊢;split at h
          ·rename_i e ht;split at h
           ·exfalso;unfold fk at h;split at h
            ·split at h
             ·split at h
              ·rw [T.ad] at h;subst h;exact Qc _ rfl
              ·exact h.elim
             ·exact h.elim
            ·exact h.elim
           ·rename_i u hu;split at h
            ·rename_i hc;rw [T.aw] at h;obtain ⟨l',gP,h⟩:=h;split at h
             ·exfalso;split at h
              ·split at h
               ·split at h
                ·rw [T.ak,T.ad] at h;obtain ⟨_,rfl⟩:=h;cases hk
                ·exact h.elim
               ·exact h.elim
              ·exact h.elim
             ·rename_i hh i0 n;by_cases rq:cfg.emp=true
              ·rw [if_pos rq,T.ak,T.ad] at h;obtain ⟨h0,rfl⟩:=h;refine ⟨rfl,fun q hq=>Rv q (List.mem_append_left _ hq),fun H' EW=>?_⟩;simp only [hc,and_self,if_true,rq];rw [T.aw];refine ⟨l',by rw [fQ fun q hq=>EW q (Rv q (List.mem_append_right _ hq))];exact gP,?_⟩;rw [T.ak,T.ad];exact ⟨h0,rfl⟩
              ·rw [if_neg rq] at h;rcases gJ h with ⟨⟨h0,hB⟩,rfl⟩ | h
               ·refine ⟨rfl,fun q hq=>Rv q (List.mem_append_left _ hq),fun H' EW=>?_⟩;simp only [hc,and_self,if_true,rq,Bool.false_eq_true,if_false];rw [T.aw];refine ⟨l',by rw [fQ fun q hq=>EW q (Rv q (List.mem_append_right _ hq))];exact gP,?_⟩;exact G9 hB h0
               ·exfalso;rw [T.aw] at h;obtain ⟨l,_,h⟩:=h;rw [T.ak,T.ad] at h;obtain ⟨_,rfl⟩:=h;exact Qc _ rfl
             ·exfalso;obtain ⟨_,rfl⟩:=jK h;exact Qc _ rfl
             ·exact h.elim
            ·exact h.elim
          ·exact h.elim
         ·exact h.elim
        ·exact h.elim
       ·contradiction
       ·contradiction
       ·exact h.elim
     | _=>rw [ho] at hm;cases hm
   | _=>rw [ho] at hm;cases hm
 | _=>rw [ho] at hm;cases hm
theorem ou {cfg:aT cod} {tm:List SV} {H:Heap cod} {o:Oper} {out:Out cod} {k:Nat} (hm:b7 o=true) (hp:o.dst.bind cfg.place=some k) (h:(p8 cfg tm H o).ah out):
 out.kill=[]∧(getObj H k).aV=true∧((∃(ob:av cod) (d:Option Nat),ob.isRow=true∧(∀q,d=some q→q∈pk tm o∧(getObj H q).bQ=true)∧out.H=(mj H d).set k ob∧out.v.hs=[k]∧
  ∀H':Heap cod,(∀q∈cG tm o,getObj H' q=getObj H q)→getObj H' k=getObj H k→(p8 cfg tm H' o).ah {v:=out.v,H:=(mj H' d).set k ob})∨
  (out.H=H∧(∀q∈out.v.hs,q∈cG tm o)∧∀H':Heap cod,(∀q∈cG tm o,getObj H' q=getObj H q)→getObj H' k=getObj H k→(p8 cfg tm H' o).ah {v:=out.v,H:=H'})):=by
 rw [lj hm hp,T.aw] at h;obtain ⟨ZG,h0,h1⟩:=h;obtain ⟨s3,s2,⟨s1,ob,s4,s5,s6,s7⟩ | ⟨q,n,s1,s4,s5,s6,s7,rfl⟩ | ⟨s1,s4,rfl⟩⟩:=yB h1;rotate_left 2
 ·obtain ⟨g1,g2,g3⟩:=yC hm h0 s1 s4;refine ⟨rfl,s3,.inr ⟨rfl,g2,fun H' hr hk=>?_⟩⟩;rw [lj hm hp,T.aw];refine ⟨_,g3 H' hr,?_⟩;unfold uW at h1 ⊢;have hd:H'.drop H'.length=[]:=List.drop_length;rw [s1,s4] at h1;simp only [hd];split at h1
  ·rename_i e _;cases e
  ·rename_i e _;cases e
  ·rename_i e _ _;cases e
  ·rename_i e1 e2 e3;rw [e3];simp only [hk,s3,if_true];rfl
  ·exact h1.elim
 ·obtain ⟨Qd,mk,rfl,hmk,hl⟩:=uX hm h0 s1 (by rw [s4];exact List.cons_ne_nil _ _);simp only [List.drop_left,List.cons.injEq,and_true] at s4;subst s4;refine ⟨s2,s3,.inl ⟨_,none,s5,(fun q hq=>by cases hq),s6,?_,fun H' hr hk=>?_⟩⟩
  ·rcases s7 with ⟨n,t,_,e⟩ | ⟨n,_,e⟩<;>rw [e]<;>rfl
  ·rw [lj hm hp,T.aw];refine ⟨_,hl H' hr,?_⟩;rcases s7 with ⟨n,t,e0,e⟩ | ⟨n,e0,e⟩
   ·have e1:mk H'.length= .c (.ai H'.length 0 n t):=by
     rcases hmk with ⟨n',t',rfl⟩ | ⟨n',rfl⟩
     ·simp only [SV.c.injEq,Cell.ai.injEq,true_and] at e0;obtain ⟨rfl,rfl⟩:=e0;rfl
     ·simp at e0
    simp only [uW,List.drop_left,e1,hk,s3,s5,and_self,if_true];rw [T.ad,e];rfl
   ·have e1:mk H'.length= .c (.own H'.length n):=by
     rcases hmk with ⟨n',t',rfl⟩ | ⟨n',rfl⟩
     ·simp at e0
     ·simp only [SV.c.injEq,Cell.own.injEq,true_and] at e0;subst e0;rfl
    simp only [uW,List.drop_left,e1,hk,s3,s5,and_self,if_true];rw [T.ad,e];rfl
 ·obtain ⟨args,Oz,ho,m,x,t,aJ,Uy,ht1,ha⟩:=BO hm h0 s1;obtain ⟨ob,n',e,g1,g2,g3,g4⟩:=th ha;rw [e] at s5;simp only [SV.c.injEq,Cell.own.injEq,true_and] at s5;subst s5;rw [g3];refine ⟨rfl,s3,.inl ⟨ob,some q,BE g1,fun j hj=>?_,rfl,rfl,fun H' hr hk=>?_⟩⟩
  ·simp only [Option.some.injEq] at hj;subst hj;refine ⟨?_,g2⟩;unfold pk;rw [ho];simp only [aJ,List.mem_singleton]
  ·have dn:∀j∈q::x.hs,getObj H' j=getObj H j:=fun j hj=>hr j (by
    unfold cG;rw [ho];simp only;have:(args.toList.map (cD tm)).flatMap SV.hs=q::x.hs:=by rw [aJ];simp [SV.hs,Cell.hs]
    rw [List.flatMap_map] at this;rw [this];exact hj)
   obtain ⟨f1,f2⟩:=g4 H' dn;rw [lj hm hp,T.aw];refine ⟨{v:=.c (.own q n'),H:=(H'.set q ob).map (av.aX (Cell.bR [q])),kill:=[q]},?_,?_⟩
   ·unfold iB;rw [ho];simp only [aJ,dc,Uy,ht1,if_true];exact f1
   ·have hd:((H'.set q ob).map (av.aX (Cell.bR [q]))).drop H'.length=[]:=List.drop_eq_nil_of_le (by simp);unfold uW;simp only [hd,f2,hk,s3,g1,dn q (List.mem_cons_self ..),g2,and_self,if_true];rw [T.ad];rfl
theorem Good.VT {H:Heap cod} {w w':World} {M:Nat→Prop} {h k:Nat} {u u':Nat} {l:List (cod u).α} {l':List (cod u').α} {ty mw:TypeId} (G:Good env H w M) (ho:H[h]? =some (.own u l ty)) (fx:k < H.length) (hkh:h≠k) (mq:∀o∈H,k∉o.hs) (hs:w.heap.size≤w'.heap.size)
 (hk:∀q,q < w.heap.size→some q≠(env h).val.ownBlock→w'.heap[q]? =w.heap[q]?) (x':HV) (jS:bH (env.set k x') H.length x' w' M (.own u' l' mw)) (hb:x'.val.ownBlock=(env h).val.ownBlock∨x'.val.ownBlock=some w.heap.size):
 Good (env.set k x') ((H.set h .dead).set k (.own u' l' mw)) w' M:=by
 have cI:h < H.length:=(List.getElem?_eq_some_iff.1 ho).1;have mz:kf H.length [k] env (env.set k x'):=fun q _ bP=>Env.aD _ _ (by rintro rfl;exact bP (by simp))
 have aL:∀j a,((H.set h .dead).set k (.own u' l' mw))[j]? =some a→(j≠k∧j≠h∧H[j]? =some a)∨(j=h∧a= .dead)∨(j=k∧a= .own u' l' mw):=by
  intro j a ha;by_cases e:j=k
  ·subst e;rw [List.getElem?_set_self (by simpa using fx)] at ha;simp only [Option.some.injEq] at ha;exact .inr (.inr ⟨rfl,ha.symm⟩)
  ·rw [List.getElem?_set_ne (by omega)] at ha;by_cases e':j=h
   ·subst e';rw [List.getElem?_set_self cI] at ha;simp only [Option.some.injEq] at ha;exact .inr (.inl ⟨rfl,ha.symm⟩)
   ·rw [List.getElem?_set_ne (by omega)] at ha;exact .inl ⟨e,e',ha⟩
 refine ⟨fun j a ha=>?_,fun j j' a a' c bP ha Pq uS hc cY=>?_,G.sr.bG (fun p _ hl hn=>hk _ hl fun e=>hn ((G.obj h _ ho).2.2.2.1 _ e.symm)) fun _ _ _ h=>h⟩
 ·rw [List.length_set,List.length_set];rcases aL j a ha with ⟨bP,Pu,h1⟩ | ⟨rfl,rfl⟩ | ⟨rfl,rfl⟩
  ·rw [Env.aD _ _ bP]
   have:=dx (f:=Cell.bR [k]) (fun c v hc=>eV (Nat.le_refl _) mz hc) (ff (w':=w') (G.obj j a h1) hs fun c hc=>by
    have cI:=bi (G.obj j a h1) hc;refine hk c cI fun e=>?_;exact G.sep h j _ a c (Ne.symm Pu) ho h1 rfl e.symm hc)
   rwa [DN (fun q hq=>by simp only [List.mem_singleton] at hq;subst hq;exact mq a (List.mem_of_getElem? h1))] at this
  ·trivial
  ·rw [Env.aU];exact jS
 ·rcases aL j a ha with ⟨h1,h1b,h2⟩ | ⟨rfl,rfl⟩ | ⟨rfl,rfl⟩<;>rcases aL j' a' Pq with ⟨jj,ahk,oQ⟩ | ⟨rfl,rfl⟩ | ⟨rfl,rfl⟩
  ·rw [Env.aD _ _ h1] at hc;rw [Env.aD _ _ jj] at cY;exact G.sep j j' a a' c bP h2 oQ uS hc cY
  ·exact cY.elim
  ·rw [Env.aD _ _ h1] at hc;rw [Env.aU] at cY;have cI:=bi (G.obj j a h2) hc;simp only [av.has] at cY;rcases hb with hb | hb
   ·rw [hb] at cY;exact G.sep j h a _ c h1b h2 ho uS hc cY
   ·rw [hb] at cY;simp only [Option.some.injEq] at cY;omega
  ·exact hc.elim
  ·exact hc.elim
  ·exact hc.elim
  ·rw [Env.aU] at hc;rw [Env.aD _ _ jj] at cY;have cI:=bi (G.obj j' a' oQ) cY;simp only [av.has] at hc;rcases hb with hb | hb
   ·rw [hb] at hc;exact G.sep h j' _ a' c (Ne.symm ahk) ho oQ rfl hc cY
   ·rw [hb] at hc;simp only [Option.some.injEq] at hc;omega
  ·exact cY.elim
  ·exact bP rfl
theorem Qk (cfg:aT cod) (hS:kB cfg) {tm:List SV} {H:Heap cod} {w:World} {M:Nat→Prop} {o:Oper} {out:Out cod} (mq:Fb cfg tm H) (h:(p8 cfg tm H o).ah out) (G:Good env H w M) (hM:∀k,w.heap.size≤k→M k)
 (ρ:Operand→Value) (hρ:∀x,aS env H.length (cD tm x) (ρ x)):iL cfg.P (ss cfg env H w M out) ((execOp ρ o).run cfg.P w):=by
 cases hm:b7 o with
 | false=>rw [dQ (.inl hm)] at h;exact G8 cfg hS mq h G hM ρ hρ
 | true=>
   cases hp:o.dst.bind cfg.place with
   | none=>rw [dQ (.inr hp)] at h;exact G8 cfg hS mq h G hM ρ hρ
   | some k=>
     rw [lj hm hp,T.aw] at h;obtain ⟨ZG,h0,h1⟩:=h;obtain ⟨s3,s2,⟨s1,ob,s4,s5,s6,s7⟩ | ⟨q,n,s1,s4,s5,s6,s7,rfl⟩ | ⟨s1,s4,rfl⟩⟩:=yB h1;rotate_left 2
     ·have hA:=ow cfg hS (fun hn=>by rw [pj hm] at hn;cases hn) h0 G hM ρ hρ
      have e0:ZG={v:=ZG.v,H:=H}:=by
       have:=(yC hm h0 s1 s4).1;cases ZG;simp only at this s1;rw [this,s1]
      rw [←e0];exact iL.mono (fun _ _ h=>h.two) hA
     ·have hA:=ow cfg hS (fun hn=>by rw [pj hm] at hn;cases hn) h0 G hM ρ hρ;obtain ⟨Qd,mk,e0,hmk,_⟩:=uX hm h0 s1 (by rw [s4];exact List.cons_ne_nil _ _);rw [e0] at s4;simp only [List.drop_left,List.cons.injEq,and_true] at s4;subst s4;have hT:=tG hp s3;have Rr:=mq k hT;obtain ⟨ov,oH,okl⟩:=out;simp only at s2 s6 s7;subst s2 s6;refine iL.mono (fun v w' hAf=>?_) hA;rw [e0] at hAf;obtain ⟨m1,m2⟩:=fw.move cfg G hT (fun ob dN hq=>Rr (.inr ⟨ob,dN,hq⟩)) rfl s5 hAf;rcases s7 with ⟨n,t,g1,rfl⟩ | ⟨n,g1,rfl⟩
      ·rw [e0] at g1;exact m1 n t g1
      ·rw [e0] at g1;exact m2 n g1
     ·obtain ⟨args,Oz,ho,m,x,t,aJ,Uy,ht1,ha⟩:=BO hm h0 s1;have hT:=tG hp s3;have Rr:=mq k hT;have hke:H[k]? =some (getObj H k):=dt (fun e=>by rw [e] at s3;cases s3);have fx:k < H.length:=(List.getElem?_eq_some_iff.1 hke).1
      have hqk:q≠k:=fun e=>by
       subst e;rw [yt s6] at s3;cases s3
      have iI:F2 (aS env H.length) (args.toList.map (cD tm)) (args.toList.map ρ):=e8 fun a _=>hρ a
      have UA:∃u v,args.toList.map ρ=[u,v]∧aS env H.length (.c (.own q m)) u∧aS env H.length x v:=by
       rw [aJ] at iI;generalize args.toList.map ρ=vs at iI
       cases iI with
       | cons hs hn=>
         cases hn with
         | cons hx hn=>
           cases hn;exact ⟨_,_,rfl,hs,hx⟩
      obtain ⟨u,v,hv,hu,hx⟩:=UA;obtain ⟨ku,l,l',mw,go,rfl,v',w',y,r1,r2,r3,r4,r5,r6,r7⟩:=Je (ty:=o.type) cfg ha G hM hu hx;have dN:=aE go (by simp);have cI:=(List.getElem?_eq_some_iff.1 dN).1;simp only [SV.c.injEq,Cell.own.injEq,true_and] at s5;subst s5
      have Ui:getObj ((H.set q (.own ku (l++l') mw)).map (av.aX (Cell.bR [q]))) q= .own ku (l++l') mw:=by
       refine cK ?_;rw [List.getElem?_map,List.getElem?_set_self cI];rfl
      have e:(builtin .append Oz o.type (args.map fun | .const _=>true | _=>false) (args.map ρ)).run cfg.P w= .ok (.value v') w':=by
       have ea:args.map ρ=#[u,v]:=by
        rw [qG,hv]
       have e1:(Builtin.append_ Oz o.type #[u,v]).run cfg.P w=(Builtin.append_ #[t,t] o.type #[u,v]).run cfg.P w:=by
        simp only [Builtin.append_,Uy,ht1,List.getElem?_toArray,List.getElem?_cons_zero,List.getElem?_cons_succ]
       rw [ea];simp only [builtin,Sem.run_bind,e1,r1,Result.andThen_ok,Sem.run_pure]
      have e2:(execOp ρ o).run cfg.P w= .ok (.value v') w':=by
       unfold execOp;rw [ho];simp only [resolve,invoke,Sem.run_bind,Sem.run_pure,Result.andThen_ok];exact e
      rw [e2];simp only [Ui];refine ⟨env.set k y,fun j _ _ hj=>Env.aD _ _ (fun e=>hj (by rw [e];exact hT)),by simp,?_,?_,r6⟩
      ·simp only [List.length_set];exact r7 _ _ k fx (Env.aU _ _ _)
      ·exact G.VT dN fx hqk (fun ob dN hq=>Rr (.inr ⟨ob,dN,hq⟩)) r2 r3 y (r4 _ _) r5
theorem ZC {cfg:aT cod} {tm:List SV} {H:Heap cod} {o:Oper} {out:Out cod} {S:Nat→Prop} {n:Nat} (h:(p8 cfg tm H o).ah out) (hn:n≤H.length) (DC:∀k,mR cfg H k→n≤k) (gF:∀k x,k < n→H[k]? =some x→x.bQ=true→S k):
 (∀k x,k < n→out.H[k]? =some x→x.bQ=true→S k)∧∀k∈out.kill,k < n→S k:=by
 cases hm:b7 o with
 | false=>rw [dQ (.inl hm)] at h;exact VF h hn gF
 | true=>
   cases hp:o.dst.bind cfg.place with
   | none=>rw [dQ (.inr hp)] at h;exact VF h hn gF
   | some k=>
     obtain ⟨h1,h2,⟨ob,d,_,_,h3,_⟩ | ⟨h3,_⟩⟩:=ou hm hp h;rotate_left 1
     ·exact ⟨fun j x hj hx hw=>gF j x hj (by rw [←h3];exact hx) hw,fun j hj=>by rw [h1] at hj;cases hj⟩
     have hk:=DC k (tG hp h2);refine ⟨fun j x hj hx hw=>?_,fun j hj=>by rw [h1] at hj;cases hj⟩;rw [h3,List.getElem?_set_ne (by omega)] at hx
     cases d with
     | none=>exact gF j x hj hx hw
     | some q=>
       by_cases e:j=q
       ·subst e;rw [mj,List.getElem?_set_self (by omega)] at hx;simp only [Option.some.injEq] at hx;subst hx;cases hw
       ·rw [mj,List.getElem?_set_ne (Ne.symm e)] at hx;exact gF j x hj hx hw
def ca (cfg:aT cod) (o:Oper):Nat:=if b7 o=true∧(o.dst.bind cfg.place).isSome=true then 3 else kindOf cfg o
theorem nD {cfg:aT cod} {o:Oper} (h:¬(b7 o=true∧(o.dst.bind cfg.place).isSome=true)):ca cfg o=kindOf cfg o∧∀tm (H:Heap cod),p8 cfg tm H o=iB cfg tm H o:=by
 refine ⟨by unfold ca;rw [if_neg h],fun tm H=>dQ ?_⟩
 cases hm:b7 o with
 | false=>exact .inl rfl
 | true=>
   refine .inr ?_
   cases hp:o.dst.bind cfg.place with
   | none=>rfl
   | some k=>exact absurd ⟨hm,by rw [hp];rfl⟩ h
theorem uV {cfg:aT cod} {o:Oper} (h:b7 o=true∧(o.dst.bind cfg.place).isSome=true):ca cfg o=3:=by unfold ca;rw [if_pos h]
theorem yv {cfg:aT cod} {tm:List SV} {H:Heap cod} {o:Oper} {out:Out cod} (h:(p8 cfg tm H o).ah out):
 (ca cfg o≤3→out.kill=[])∧(ca cfg o=0→out.H=H∧∀H',(p8 cfg tm H' o).ah {v:=out.v,H:=H'})∧
   (ca cfg o=1→out.H=H∧∀X,(p8 cfg tm (H++X) o).ah {v:=out.v,H:=H++X})∧(ca cfg o=2→∃X,out.H=H++X):=by
 by_cases hc:b7 o=true∧(o.dst.bind cfg.place).isSome=true
 ·obtain ⟨k,hk⟩:=Option.isSome_iff_exists.1 hc.2;rw [uV hc];exact ⟨fun _=>(ou hc.1 hk h).1,(fun e=>by cases e),(fun e=>by cases e),fun e=>by cases e⟩
 ·obtain ⟨e1,e2⟩:=nD hc;rw [e2] at h;simp only [e1,e2];exact ⟨fun hk=>Kn hk h,fun hk=>⟨(Nw hk h).1,(Nw hk h).2.2⟩,fun hk=>⟨(Nx hk h).1,(Nx hk h).2.2⟩,fun hk=>aa4 hk h⟩
theorem jw:∀(l acc:List Nat) (x:Nat),x∈dh acc l→x∈acc∨x∈l
 | [],acc,x,h=>.inl h
 | y::l,acc,x,h=>by
   unfold dh at h;split at h
   ·rcases jw l acc x h with h | h
    ·exact .inl h
    ·exact .inr (List.mem_cons_of_mem _ h)
   ·rcases jw l _ x h with h | h
    ·rcases List.mem_append.1 h with h | h
     ·exact .inl h
     ·exact .inr (by rw [List.mem_singleton] at h;rw [h];exact List.mem_cons_self ..)
    ·exact .inr (List.mem_cons_of_mem _ h)
theorem tS {H:Heap cod}:∀(d:Nat) (l:List Nat) (x:Nat),x∈reach H d l→x∈l∨∃ob∈H,x∈ob.hs
 | 0,l,x,h=>.inl h
 | d+1,l,x,h=>by
   unfold reach at h;rcases tS d _ x h with h | h
   ·rcases jw _ _ x h with h | h
    ·exact .inl h
    ·obtain ⟨q,_,hq⟩:=List.mem_flatMap.1 h;refine .inr ⟨getObj H q,?_,hq⟩;have hd:getObj H q≠.dead:=fun e=>by rw [e] at hq;cases hq
     exact List.mem_of_getElem? (dt hd)
   ·exact .inr h
theorem nU {o:av cod} (h:o.wr=true):o.aV=false:=by cases o<;>first | rfl | (simp [av.wr] at h)
theorem Ec (f:Nat→Nat) (c:Cell):∀q∈(c.gp f).hs,∃p∈c.hs,q=f p:=by
 intro q hq;cases c<;>simp only [Cell.gp,Cell.hs,List.mem_singleton,List.not_mem_nil] at hq ⊢
 case ptr=>exact ⟨_,rfl,hq⟩
 case ai=>exact ⟨_,rfl,hq⟩
 case own=>exact ⟨_,rfl,hq⟩
 case fn g dC=>
  obtain ⟨c,hc,rfl⟩:=List.mem_map.1 hq;obtain ⟨a,ha,rfl⟩:=List.mem_map.1 hc;exact ⟨a.1,List.mem_map.2 ⟨a,ha,rfl⟩,rfl⟩
theorem fu (f:Nat→Nat) (cs:List Cell):∀q∈(cs.map (Cell.gp f)).flatMap Cell.hs,∃p∈cs.flatMap Cell.hs,q=f p:=by
 intro q hq;obtain ⟨c,hc,hqc⟩:=List.mem_flatMap.1 hq;obtain ⟨a,ha,rfl⟩:=List.mem_map.1 hc;obtain ⟨p,hp,rfl⟩:=Ec f a q hqc;exact ⟨p,List.mem_flatMap.2 ⟨a,ha,hp⟩,rfl⟩
theorem qc (f:Nat→Nat) (o:av cod):∀q∈(o.aX (Cell.gp f)).hs,∃p∈o.hs,q=f p:=by
 intro q hq;cases o<;>simp only [av.aX,av.hs,List.not_mem_nil] at hq ⊢
 ·exact fu f _ q hq
 ·exact fu f _ q hq
 ·exact fu f _ q hq
 ·rename_i t LL op
  cases op with
  | none=>cases hq
  | some p=>exact Ec f p.2 q hq
 ·exact fu f _ q hq
theorem BY (f:Nat→Nat) (x:SV):∀q∈(x.aX (Cell.gp f)).hs,∃p∈x.hs,q=f p:=by
 intro q hq
 cases x with
 | c x=>exact Ec f x q hq
 | agg cs=>exact fu f cs q hq
 | aP vs=>
   simp only [SV.aX,SV.hs] at hq ⊢;obtain ⟨y,hy,hqy⟩:=List.mem_flatMap.1 hq;obtain ⟨z,hz,rfl⟩:=List.mem_map.1 hy
   cases z with
   | c x=>
     obtain ⟨p,hp,rfl⟩:=Ec f x q hqy
     exact ⟨p,List.mem_flatMap.2 ⟨_,hz,hp⟩,rfl⟩
   | agg cs=>
     obtain ⟨p,hp,rfl⟩:=fu f cs q hqy
     exact ⟨p,List.mem_flatMap.2 ⟨_,hz,hp⟩,rfl⟩
   | aP l=>cases hqy
theorem kT {H:Heap cod} {k j:Nat} {ob:av cod} (h:j≠k):getObj (H.set k ob) j=getObj H j:=by
 unfold getObj;simp only [List.getD];rw [List.getElem?_set_ne (Ne.symm h)]
theorem Jo {cfg:aT cod} {H:Heap cod} {g:FuncId} {s:aH cod} {args:List SV} {out:Out cod} (h:(qK cfg H g s args).ah out):
 (∀k∈out.v.hs,(k∈args.flatMap SV.hs∨∃ob∈H,k∈ob.hs)∨(getObj out.H k).aV=false)∧(∀ob∈out.H,∀k∈ob.hs,(k∈args.flatMap SV.hs∨∃ob∈H,k∈ob.hs)∨(getObj out.H k).aV=false)∧∀k,(getObj out.H k).aV=true→(getObj H k).aV=true:=by
 unfold qK at h;simp only at h
 have YZ:∀k∈reach H 3 (dh [] (args.flatMap SV.hs)),k∈args.flatMap SV.hs∨∃ob∈H,k∈ob.hs:=fun k hk=>by
  rcases tS 3 _ k hk with h1 | h1
  ·rcases jw _ _ k h1 with h2 | h2
   ·cases h2
   ·exact .inl h2
  ·exact .inr h1
 generalize reach H 3 (dh [] (args.flatMap SV.hs))=hs at h YZ;split at h
 ·rename_i hc;obtain ⟨vA,kU⟩:=hc;rw [T.aw] at h;obtain ⟨⟨r,news⟩,hr,h⟩:=h;simp only at h;split at h
  ·rename_i hw;obtain ⟨hw,_,_⟩:=hw;rw [T.ad] at h;subst h;simp only
   have iw:∀k,H.length≤k→(getObj (H++news.map (av.aX (Cell.gp fun i=>if i < hs.length then hs.getD i 0 else H.length+(i - hs.length)))) k).aV=false:=by
    intro k hk;unfold getObj;simp only [List.getD];rw [List.getElem?_append_right hk,List.getElem?_map]
    cases hn:news[k - H.length]? with
    | none=>rfl
    | some o=>
      simp only [Option.map_some,Option.getD_some];refine nU ?_;rw [fT];exact List.all_eq_true.1 hw o (List.mem_of_getElem? hn)
   have back:∀i,(((if i < hs.length then hs.getD i 0 else H.length+(i - hs.length))∈args.flatMap SV.hs∨∃ob∈H,(if i < hs.length then hs.getD i 0 else H.length+(i - hs.length))∈ob.hs)∨(getObj (H++news.map (av.aX (Cell.gp fun i=>if i < hs.length then hs.getD i 0 else H.length+(i - hs.length)))) (if i < hs.length then hs.getD i 0 else H.length+(i - hs.length))).aV=false):=by
    intro i;split
    ·rename_i hi;refine .inl (YZ _ ?_);simp [List.getD,List.getElem?_eq_getElem hi]
    ·exact .inr (iw _ (by omega))
   refine ⟨fun k hk=>?_,fun ob dN k hk=>?_,fun k hk=>?_⟩
   ·obtain ⟨p,_,rfl⟩:=BY _ _ k hk;exact back p
   ·rcases List.mem_append.1 dN with h1 | h1
    ·exact .inl (.inr ⟨ob,h1,hk⟩)
    ·obtain ⟨o,_,rfl⟩:=List.mem_map.1 h1;obtain ⟨p,_,rfl⟩:=qc _ _ k hk;exact back p
   ·rcases Nat.lt_or_ge k H.length with hl | hl
    ·rwa [om _ hl] at hk
    ·rw [iw k hl] at hk;cases hk
  ·exact h.elim
 ·exact h.elim
theorem Km (c:Cell):c.bR []=c:=by
 unfold Cell.bR;rw [if_neg];simp
theorem mr (o:av cod):o.aX (Cell.bR [])=o:=by
 have e:Cell.bR []=id:=funext Km;rw [e];cases o<;>simp [av.aX]
theorem Pv (f:Cell→Cell) (o:av cod):(o.aX f).aV=o.aV:=by cases o<;>rfl
theorem TT {X Y:Heap cod} (hw:Y.all av.wr=true) (f:Cell→Cell) {k:Nat} (hk:X.length≤k):(getObj (X++Y.map (av.aX f)) k).aV=false:=by
 unfold getObj;simp only [List.getD];rw [List.getElem?_append_right hk,List.getElem?_map]
 cases hn:Y[k - X.length]? with
 | none=>rfl
 | some o=>
   simp only [Option.map_some,Option.getD_some];refine nU ?_;rw [fT];exact List.all_eq_true.1 hw o (List.mem_of_getElem? hn)
theorem xr {H:Heap cod} {s:aH cod} {args:List SV} {out:Out cod} (h:(uI H true s args).ah out):
 out.kill=[]∧(∀k∈out.v.hs,(k∈args.flatMap SV.hs∨∃ob∈H,k∈ob.hs)∨(getObj out.H k).aV=false)∧(∀ob∈out.H,∀k∈ob.hs,(k∈args.flatMap SV.hs∨∃ob∈H,k∈ob.hs)∨(getObj out.H k).aV=false)∧∀k,(getObj out.H k).aV=true→(getObj H k).aV=true:=by
 unfold uI at h;simp only at h
 have YZ:∀k∈reach H 3 (dh [] (args.flatMap SV.hs)),k∈args.flatMap SV.hs∨∃ob∈H,k∈ob.hs:=fun k hk=>by
  rcases tS 3 _ k hk with h1 | h1
  ·rcases jw _ _ k h1 with h2 | h2
   ·cases h2
   ·exact .inl h2
  ·exact .inr h1
 generalize reach H 3 (dh [] (args.flatMap SV.hs))=hs at h YZ;have hks:(hs.filter fun h=>!true&&(getObj H h).bQ)=[]:=by simp
 rw [hks] at h;split at h
 ·rename_i hc;obtain ⟨vA,kU⟩:=hc;rw [T.aw] at h;obtain ⟨⟨r,H2⟩,hr,h⟩:=h;simp only at h;split at h
  ·rename_i hw;obtain ⟨hw0,hw,_,hw2⟩:=hw;rw [T.ad] at h;subst h;simp only;generalize hbk:(fun i=>if i < hs.length then hs.getD i 0 else H.length+(i - hs.length))=back;have hlen:((List.range H.length).map fun h=>if (hs.contains h&&(getObj H h).wr)=true then (getObj H2 (hs.idxOf h)).aX (Cell.gp back) else (getObj H h).aX (Cell.bR [])).length=H.length:=by simp
   have iw:∀k,H.length≤k→(getObj (((List.range H.length).map fun h=>if (hs.contains h&&(getObj H h).wr)=true then (getObj H2 (hs.idxOf h)).aX (Cell.gp back) else (getObj H h).aX (Cell.bR []))++(H2.drop hs.length).map (av.aX (Cell.gp back))) k).aV=false:=by
    intro k hk;exact TT hw _ (by rw [hlen];exact hk)
   have bk:∀i,(back i∈args.flatMap SV.hs∨∃ob∈H,back i∈ob.hs)∨H.length≤back i:=by
    intro i;rw [←hbk];simp only;split
    ·rename_i hi;refine .inl (YZ _ ?_);simp [List.getD,List.getElem?_eq_getElem hi]
    ·exact .inr (by omega)
   refine ⟨trivial,fun k hk=>?_,fun ob dN k hk=>?_,fun k hk=>?_⟩
   ·obtain ⟨p,_,rfl⟩:=BY _ _ k hk;exact (bk p).imp id (iw _)
   ·rcases List.mem_append.1 dN with h1 | h1
    ·obtain ⟨q,hq,rfl⟩:=List.mem_map.1 h1;have Rv:=List.mem_range.1 hq;split at hk
     ·obtain ⟨p,_,rfl⟩:=qc _ _ k hk;exact (bk p).imp id (iw _)
     ·rw [mr] at hk;refine .inl (.inr ⟨getObj H q,?_,hk⟩);unfold getObj;rw [List.getD,List.getElem?_eq_getElem Rv];exact List.getElem_mem Rv
    ·obtain ⟨o,_,rfl⟩:=List.mem_map.1 h1;obtain ⟨p,_,rfl⟩:=qc _ _ k hk;exact (bk p).imp id (iw _)
   ·rcases Nat.lt_or_ge k H.length with hl | hl
    ·have e:getObj (((List.range H.length).map fun h=>if (hs.contains h&&(getObj H h).wr)=true then (getObj H2 (hs.idxOf h)).aX (Cell.gp back) else (getObj H h).aX (Cell.bR []))++(H2.drop hs.length).map (av.aX (Cell.gp back))) k=(if (hs.contains k&&(getObj H k).wr)=true then (getObj H2 (hs.idxOf k)).aX (Cell.gp back) else (getObj H k).aX (Cell.bR [])):=by
      refine cK ?_;rw [List.getElem?_append_left (by rw [hlen];exact hl),List.getElem?_map,List.getElem?_range hl];rfl
     rw [e] at hk;split at hk
     ·rename_i hcw;simp only [Bool.and_eq_true] at hcw;rw [Pv] at hk;have hm:k∈hs:=by simpa using hcw.1
      have hi:=List.idxOf_lt_length_iff.2 hm;have h3:=List.all_eq_true.1 hw2 (hs.idxOf k) (List.mem_range.2 hi);simp only [Bool.and_eq_true,beq_iff_eq] at h3;have hg:hs.getD (hs.idxOf k) 0=k:=by rw [List.getD,List.getElem?_eq_getElem hi];simp
      rw [hg,hcw.2] at h3;rw [nU h3.1] at hk;cases hk
     ·rwa [mr] at hk
    ·rw [iw k hl] at hk;cases hk
  ·exact h.elim
 ·exact h.elim
def UR (cfg:aT cod) (o:Oper):Bool:=match o.op with
 | .call {callee:=.value (.func g),.. }=>if jY cfg.P g=true then false else match cfg.lB g,cfg.Ch g with
   | none,some (true,_)=>true
   | _,_=>false
 | _=>false
theorem yu {cfg:aT cod} {tm:List SV} {H:Heap cod} {o:Oper} {out:Out cod} (hk:UR cfg o=true) (h:(p8 cfg tm H o).ah out):∃(args:Array Operand) (s:aH cod),(uI H true s (args.toList.map (cD tm))).ah out:=by
 unfold UR at hk;split at hk
 ·rename_i g args Oz ho;by_cases vD:jY cfg.P g=true
  ·rw [if_pos vD] at hk;cases hk
  rw [if_neg vD] at hk;split at hk
  ·rename_i s e1 e2;have hm:b7 o=false:=by unfold b7;rw [ho]
   rw [dQ (.inl hm)] at h;unfold iB at h;rw [ho] at h;have e0:cD tm (.func g)= .c (.fn g []):=rfl;simp only [e0,List.map_nil,List.append_nil,if_neg vD] at h;unfold mh at h;rw [e1,e2] at h;exact ⟨args,s,h⟩
  ·cases hk
 ·cases hk
theorem Yv {P:Program} {g:FuncId} {args:List SV} {r:SV} (h:(TN P g args).ah r):r.hs=[]:=by
 unfold TN at h;split at h
 ·split at h
  ·split at h
   ·rw [T.ad] at h;rw [←h];rfl
   ·exact h.elim
  ·split at h
   ·split at h
    ·rw [T.ak,T.ad] at h;rw [←h.2];rfl
    ·exact h.elim
   ·split at h
    ·rw [T.ad] at h;rw [←h];rfl
    ·exact h.elim
 ·exact h.elim
def vI (cfg:aT cod) (o:Oper):Bool:=decide (ca cfg o≤3)||UR cfg o
theorem QS {P:Program} {H:Heap cod} {t:TypeId} {x r:SV} {lo hi mx:Option SV} (h:(jM P H t x lo hi mx).ah r):∀k∈r.hs,k∈x.hs:=by
 unfold jM at h;split at h
 ·split at h
  ·unfold ug at h;split at h
   ·split at h
    ·split at h
     ·rw [T.ad] at h;rw [←h];exact fun k hk=>hk
     ·rw [T.ak,T.ad] at h;rw [←h.2];exact fun k hk=>hk
     ·exact h.elim
    ·exact h.elim
   ·exact h.elim
  ·exact h.elim
 ·split at h
  all_goals first | exact h.elim | skip
  all_goals
   rw [T.ak,T.ad] at h;rw [←h.2];intro k hk;cases hk
 ·split at h
  ·split at h
   ·split at h
    ·rw [T.ak,T.ad] at h;rw [←h.2];intro k hk;cases hk
    ·exact h.elim
   ·exact h.elim
  ·rename_i hs;have hm:=AV hs;split at h
   ·split at h
    all_goals first | exact h.elim | skip
    all_goals
     rw [T.ak,T.ad] at h;rw [←h.2];intro k hk;simp only [SV.hs,Cell.hs,List.mem_singleton] at hk;rw [hk];exact hm
   ·exact h.elim
 ·exact h.elim
def okQ (o:Oper):Bool:=
 okP o||b7 o||match o.op with
  | .slice _ _ _ _ _=>true
  | .build _ _=>true
  | .call {callee:=.value (.func _),.. }=>true
  | .call {callee:=.builtin .len,.. }=>true
  | _=>false
theorem Gb {pl:Nat→Option (Nat×Nat)}:∀(parts:List (Nat×SV)) (z cs:List Cell),pd pl z parts=some cs→∀k∈cs.flatMap Cell.hs,k∈z.flatMap Cell.hs∨∃p∈parts,k∈p.2.cells.flatMap Cell.hs
 | [],z,cs,h,k,hk=>by
   simp only [pd,Option.some.injEq] at h;subst h
   exact .inl hk
 | (i,v)::rest,z,cs,h,k,hk=>by
   rw [pd] at h;split at h
   ·cases h
   ·split at h
    ·cases h
    ·rcases Gb rest _ cs h k hk with h1 | ⟨p,hp,h1⟩
     ·obtain ⟨c,hc,J9⟩:=List.mem_flatMap.1 h1;unfold cS at hc;rcases List.mem_append.1 hc with hc | hc
      ·exact .inl (List.mem_flatMap.2 ⟨c,List.mem_of_mem_take hc,J9⟩)
      ·rcases List.mem_append.1 hc with hc | hc
       ·exact .inr ⟨(i,v),List.mem_cons_self ..,List.mem_flatMap.2 ⟨c,hc,J9⟩⟩
       ·exact .inl (List.mem_flatMap.2 ⟨c,List.mem_of_mem_drop hc,J9⟩)
     ·exact .inr ⟨p,List.mem_cons_of_mem _ hp,h1⟩
theorem S9 {x:SV} {k:Nat} (h:k∈x.cells.flatMap Cell.hs):k∈x.hs:=by
 cases x with
 | c x=>simpa [SV.cells,SV.hs] using h
 | agg cs=>exact h
 | aP vs=>simp [SV.cells,Cell.hs] at h
def nB (o:Oper):Bool:=fJ o||b7 o
theorem Ql {cfg:aT cod} {tm:List SV} {H:Heap cod} {o:Oper} {out:Out cod} (hk:okQ o=true) (Xt:ca cfg o≤3) (hp:nB o=true→(o.dst.bind cfg.place).isSome=true) (h:(p8 cfg tm H o).ah out):
 (∀k∈out.v.hs,iV tm H k∨(getObj out.H k).aV=false)∧(∀ob∈out.H,∀k∈ob.hs,iV tm H k∨(getObj out.H k).aV=false)∧∀k,(getObj out.H k).aV=true→(getObj H k).aV=true:=by
 cases hm:b7 o with
 | true=>
   obtain ⟨k,hpk⟩:=Option.isSome_iff_exists.1 (hp (by unfold nB;rw [hm];simp));obtain ⟨_,h2,⟨ob,d,h3,_,h4,h5,_⟩ | ⟨h4,h5,_⟩⟩:=ou hm hpk h;rotate_left 1
   ·rw [h4];refine ⟨fun q hq=>.inl ?_,fun a ha q hq=>.inl (.inr ⟨a,ha,hq⟩),fun q hq=>hq⟩;have:=h5 q hq;unfold cG at this;split at this
    ·obtain ⟨x,_,hx⟩:=List.mem_flatMap.1 this;exact .inl (eC hx)
    ·cases this
   obtain ⟨_,p2,p3⟩:=nC h3;have hg:H[k]? =some (getObj H k):=dt (fun e=>by rw [e] at h2;cases h2);have Uv:getObj ((mj H d).set k ob) k=ob:=cK (List.getElem?_set_self (by rw [Dd];exact (List.getElem?_eq_some_iff.1 hg).1))
   have hdm:∀a∈mj H d,a∈H∨a= .dead:=fun a ha=>by
    cases d with
    | none=>exact .inl ha
    | some q=>exact List.mem_or_eq_of_mem_set ha
   have hdg:∀j,(getObj (mj H d) j).aV=true→(getObj H j).aV=true:=fun j hj=>by
    cases d with
    | none=>exact hj
    | some q=>
      by_cases e:j=q
      ·subst e;unfold mj getObj at hj;rw [List.getD] at hj;by_cases hl:j < H.length
       ·rw [List.getElem?_set_self hl] at hj;cases hj
       ·rw [List.getElem?_eq_none (by simpa using hl)] at hj;cases hj
      ·rwa [mj,kT e] at hj
   rw [h4];refine ⟨fun q hq=>?_,fun a ha q hq=>?_,fun q hq=>?_⟩
   ·rw [h5,List.mem_singleton] at hq;subst hq;rw [Uv];exact .inr p3
   ·rcases List.mem_or_eq_of_mem_set ha with h1 | h1
    ·rcases hdm a h1 with h1 | rfl
     ·exact .inl (.inr ⟨a,h1,hq⟩)
     ·cases hq
    ·subst h1;rw [p2] at hq;cases hq
   ·by_cases e:q=k
    ·subst e;rw [Uv,p3] at hq;cases hq
    ·rw [kT e] at hq
     exact hdg q hq
 | false=>
   rw [dQ (.inl hm)] at h;by_cases hkp:okP o=true
   ·obtain ⟨m1,m2,m3⟩:=ZD hkp (fun hn=>hp (by unfold nB;rw [hn];rfl)) h;exact ⟨m1,fun ob dN k hk=>.inl (m2 ob dN k hk),m3⟩
   ·unfold okQ at hk;rw [hm] at hk;simp only [hkp,Bool.or_false,Bool.false_or] at hk;have Gn:ca cfg o=kindOf cfg o:=(nD (fun e=>by rw [hm] at e;cases e.1)).1;rw [Gn] at Xt;unfold iB at h;unfold kindOf at Xt
    cases ho:o.op with
    | slice t x lo hi mx=>
      simp only [ho] at h;rw [T.aw] at h;obtain ⟨v,h1,h2⟩:=h;rw [T.ad] at h2;subst h2
      refine ⟨fun k hk=>.inl (.inl (eC (QS h1 k hk))),fun ob dN k hk=>.inl (.inr ⟨ob,dN,hk⟩),fun _ h=>h⟩
    | build t parts=>
      simp only [ho] at h;split at h
      ·rename_i cs hb;rw [T.ad] at h;subst h;refine ⟨fun k hk=>.inl ?_,fun ob dN k hk=>.inl (.inr ⟨ob,dN,hk⟩),fun _ h=>h⟩;unfold C4 at hb;split at hb
       ·rename_i z pl hz _;rcases Gb _ _ _ hb k hk with h1 | ⟨p,hp,h1⟩
        ·exfalso;unfold zeroCells at hz;split at hz
         ·rename_i v _;simp only [Option.some.injEq] at hz;subst hz;rw [iT] at h1;cases h1
         ·cases hz
        ·obtain ⟨q,hq,rfl⟩:=List.mem_map.1 hp;exact .inl (eC (S9 h1))
       ·cases hb
      ·exact h.elim
    | call c=>
      obtain ⟨callee,args,argTypes⟩:=c
      cases callee with
      | value f=>
        cases f with
        | func g=>
          simp only [ho] at h Xt;by_cases vD:jY cfg.P g=true
          ·have e0:cD tm (.func g)= .c (.fn g []):=rfl;rw [e0] at h;simp only [if_pos vD] at h;rw [T.aw] at h;obtain ⟨v,hv,h⟩:=h;rw [T.ad] at h;subst h;refine ⟨fun k hk=>(by rw [Yv hv] at hk;cases hk),fun ob dN k hk=>.inl (.inr ⟨ob,dN,hk⟩),fun _ h=>h⟩
          rw [if_neg vD] at Xt
          have hs:(cfg.lB g).isSome=true:=by
           cases hs:(cfg.lB g).isSome with
           | true=>rfl
           | false=>rw [hs] at Xt;simp at Xt
          obtain ⟨s,hs⟩:=Option.isSome_iff_exists.1 hs;have e0:cD tm (.func g)= .c (.fn g []):=rfl;rw [e0] at h;simp only [List.map_nil,List.append_nil,if_neg vD] at h;unfold mh at h;rw [hs] at h;obtain ⟨c1,c2,c3⟩:=Jo h
          have conv:∀k,(k∈(args.toList.map (cD tm)).flatMap SV.hs∨∃ob∈H,k∈ob.hs)→iV tm H k:=by
           rintro k (hk | hk)
           ·rw [List.flatMap_map] at hk;obtain ⟨x,_,hx⟩:=List.mem_flatMap.1 hk;exact .inl (eC hx)
           ·exact .inr hk
          exact ⟨fun k hk=>(c1 k hk).imp (conv k) id,fun ob dN k hk=>(c2 ob dN k hk).imp (conv k) id,c3⟩
        | _=>rw [ho] at hk;cases hk
      | builtin bb=>
        cases bb with
        | len=>
          simp only [ho] at h
          have hv:out.H=H∧out.v.hs=[]:=by
           generalize args.toList.map (cD tm)=l at h;rcases l with _ | ⟨x,_ | ⟨y,l⟩⟩
           ·exact h.elim
           ·simp only [dc] at h;split at h
            ·rw [T.ad] at h;rw [←h];exact ⟨rfl,rfl⟩
            ·rw [T.ad] at h;rw [←h];exact ⟨rfl,rfl⟩
            ·split at h
             ·rw [T.ad] at h;rw [←h];exact ⟨rfl,rfl⟩
             ·split at h
              ·rw [T.ad] at h;rw [←h];exact ⟨rfl,rfl⟩
              ·exact h.elim
            ·exact h.elim
           ·exact h.elim
          refine ⟨fun k hk=>?_,fun ob dN k hk=>?_,fun k hk=>?_⟩
          ·rw [hv.2] at hk;cases hk
          ·rw [hv.1] at dN;exact .inl (.inr ⟨ob,dN,hk⟩)
          ·rw [hv.1] at hk
           exact hk
        | _=>rw [ho] at hk;cases hk
      | _=>rw [ho] at hk;cases hk
    | _=>rw [ho] at hk;cases hk
theorem G6 {cfg:aT cod} {tm:List SV} {H:Heap cod} {o:Oper} {out:Out cod} (hk:okQ o=true) (ht:vI cfg o=true) (hp:nB o=true→(o.dst.bind cfg.place).isSome=true) (h:(p8 cfg tm H o).ah out):
 (∀k∈out.v.hs,iV tm H k∨(getObj out.H k).aV=false)∧(∀ob∈out.H,∀k∈ob.hs,iV tm H k∨(getObj out.H k).aV=false)∧∀k,(getObj out.H k).aV=true→(getObj H k).aV=true:=by
 unfold vI at ht;rw [Bool.or_eq_true,decide_eq_true_eq] at ht;rcases ht with ht | ht
 ·exact Ql hk ht hp h
 ·obtain ⟨args,s,h1⟩:=yu ht h;obtain ⟨_,c1,c2,c3⟩:=xr h1
  have conv:∀k,(k∈(args.toList.map (cD tm)).flatMap SV.hs∨∃ob∈H,k∈ob.hs)→iV tm H k:=by
   rintro k (hk | hk)
   ·rw [List.flatMap_map] at hk;obtain ⟨x,_,hx⟩:=List.mem_flatMap.1 hk;exact .inl (eC hx)
   ·exact .inr hk
  exact ⟨fun k hk=>(c1 k hk).imp (conv k) id,fun ob dN k hk=>(c2 ob dN k hk).imp (conv k) id,c3⟩
theorem Ci {cfg:aT cod} {tm:List SV} {H:Heap cod} {o:Oper} {out:Out cod} (ht:vI cfg o=true) (h:(p8 cfg tm H o).ah out):out.kill=[]:=by
 unfold vI at ht;rw [Bool.or_eq_true,decide_eq_true_eq] at ht;rcases ht with ht | ht
 ·exact (yv h).1 ht
 ·obtain ⟨args,s,h1⟩:=yu ht h;exact (xr h1).1
end
end Sym
end Go.Proofs.YtcjagpfbhnmggaaGreatDoor
