/- Parts of the proof. -/
import Derived.Test.YtcjagpfbhnmggaaGreatDoorBd4
namespace Go.Proofs.YtcjagpfbhnmggaaGreatDoor
namespace Sym
open Go.RowKit
section
variable {cod:Nat→aO} {P:Program} {env:Env} {N:Nat}
def fw (env:Env) (H:Heap cod) (w:World) (M:Nat→Prop) (o:Out cod) (v:Value) (w':World):Prop:=
 ∃aK,kf H.length o.kill env aK∧H.length≤o.H.length∧aS aK o.H.length o.v v∧Good aK o.H w' M∧gR M w w'
theorem bj {H:Heap cod} {w:World} {M:Nat→Prop} {x:SV} {v:Value} (G:Good env H w M) (hx:aS env H.length x v):fw env H w M {v:=x,H:=H} v w:=
 ⟨env,(eH.refl _ _).but _,Nat.le_refl _,hx,G,gR.refl _ _⟩
theorem eT {H:Heap cod} {w w':World} {M:Nat→Prop} {o:av cod} {x:SV} {v:Value} {hv:HV} (G:Good (env.set H.length hv) (H++[o]) w' M) (hx:aS (env.set H.length hv) (H.length+1) x v) (hb:gR M w w'):
 fw env H w M {v:=x,H:=H++[o]} v w':=
 ⟨_,(Env.l6 env _ hv).but _,by simp,by simpa using hx,G,hb⟩
theorem tR {w:World} {base:Nat} {e:TypeId} {size n:Nat} {v:Value} {xs:List Value} (h:w.ownsRow base e size v n xs):
 ∃A c,v= .slice A n c∧n≤c∧c≤maxLen∧(∀a,A=some a→∃g,a=⟨g,0,none⟩∧v.ownBlock=some g)∧(0 < n→∃g,A=some ⟨g,0,none⟩):=by
 rcases h.2 with ⟨rfl,rfl⟩ | ⟨g,cap,eW,rfl,hb,hg,vB,mA,_⟩
 ·exact ⟨none,0,rfl,Nat.le_refl _,Nat.zero_le _,(fun a ha=>by cases ha),fun h=>by omega⟩
 ·exact ⟨_,cap,rfl,vB,mA,fun a ha=>⟨g,(Option.some.inj ha).symm,rfl⟩,fun _=>⟨g,rfl⟩⟩
theorem Qq {w:World} {B:Nat} {e:TypeId} {size n:Nat} {v:Value} {xs:List Value} (h:w.ownsRow B e size v n xs):w.ownsRow 0 e size v n xs:=by
 refine ⟨h.1,?_⟩;rcases h.2 with hn | ⟨g,cap,eW,hv,hb,rest⟩
 ·exact .inl hn
 ·exact .inr ⟨g,cap,eW,hv,Nat.zero_le _,rest⟩
theorem oy {w:World} {B:Nat} {M:Nat→Prop} {u:Nat} {l:List (cod u).α} {e:TypeId} {v:Value} (h:w.ownsRow B e (cod u).size v l.length (aN (cod u) l)) (hM:∀b,v.ownBlock=some b→M b) (env:Env) (N:Nat):
 bH env N ⟨v.ownBlock.getD 0,0,(cod u).size,v,[]⟩ w M (.own u l e):=by
 obtain ⟨A,c,hv,_,_,hA,_⟩:=tR h;refine ⟨rfl,rfl,Qq h,hM,fun a n c' he=>?_⟩;simp only at he;rw [hv] at he;simp only [Value.slice.injEq] at he;obtain ⟨g,h1,h2⟩:=hA a he.1;rw [h1,h2];rfl
theorem nJ {w:World} {B:Nat} {u:Nat} {l:List (cod u).α} {e:TypeId} {v:Value} {h n:Nat} (ho:w.ownsRow B e (cod u).size v l.length (aN (cod u) l)) (hn:n=l.length) (env:Env) (hh:h < N) (he:env h=⟨v.ownBlock.getD 0,0,(cod u).size,v,[]⟩):
 bZ env N (.own h n) v:=by
 subst hn;obtain ⟨A,c,hv,vA,kU,hA,hp⟩:=tR ho;refine ⟨hh,by rw [he],A,c,hv,vA,kU,fun h0=>?_⟩;obtain ⟨g,hg⟩:=hp h0;obtain ⟨g',h1,h2⟩:=hA _ hg;simp only [Addr.mk.injEq,and_true] at h1;subst h1;rw [hg,he];simp [HV.addr,h2]
theorem KJ {w:World} {b o:Nat} {vs:List Value} (h:∀j u,vs[j]? =some u→w.cell? ⟨b,o+j,none⟩=some u):∀j q,vs[j]? =some q→w.cell? ((⟨b,o,none⟩:Addr).add j)=some q:=fun j q hq=>by
 have e:(⟨b,o,none⟩:Addr).add j=⟨b,o+j,none⟩:=by unfold Addr.add;split<;>simp_all
 rw [e];exact h j q hq
theorem Pf {H:Heap cod} {w:World} {M:Nat→Prop} {h:Nat} {cs:List Cell} (G:Good env H w M) (hf:(getObj H h).front=some cs):(env h).off=0∧(env h).block < w.heap.size∧∃vs,reads w (env h) vs∧ct env H.length cs vs:=by
 cases ho:getObj H h with
 | aF c0 ty=>
   rw [ho] at hf;cases hf;obtain ⟨h1,h2,vs,h3,h4⟩:=G.obj h _ (aE ho (by simp))
   exact ⟨h1,(Array.getElem?_eq_some_iff.1 h3).1,vs,fun j u hu=>by rw [h1,Nat.zero_add,cell_of_row w _ j _ _ _ h3];simpa using hu,h4⟩
 | aY c0=>
   rw [ho] at hf;cases hf;obtain ⟨h1,h2,vs,h3,h4⟩:=G.obj h _ (aE ho (by simp))
   exact ⟨h1,h2,vs,h3,h4⟩
 | gL c0=>
   rw [ho] at hf;cases hf;obtain ⟨h1,h2,vs,h3,h4⟩:=G.obj h _ (aE ho (by simp))
   exact ⟨h1,h2.1,vs,h3,h4⟩
 | _=>rw [ho] at hf;cases hf
theorem Ac (cfg:aT cod) {H:Heap cod} {w:World} {M:Nat→Prop} {t e ty:TypeId} {s x:SV} {u v:Value} {out:Out cod} (ht:cfg.P.underlying t=some (.slice e)) (h:(fk cfg H e s x).ah out) (G:Good env H w M) (hM:∀k,w.heap.size≤k→M k) (hs:aS env H.length s u) (hx:aS env H.length x v):
 ∃v' w',(Builtin.append_ #[t,t] ty #[u,v]).run cfg.P w= .ok v' w'∧fw env H w M out v' w':=by
 unfold fk at h;split at h
 ·rename_i hh i n tt;split at h
  ·rename_i cs hf;split at h
   ·rename_i hc;obtain ⟨rfl,hn,hn6,YO,J5,kW,hby,hzz⟩:=hc;rw [T.ad] at h;subst h;have hu:u= .slice none 0 0:=hs;subst hu;obtain ⟨hN,A,c,rfl,vB,mA,_,hA⟩:=hx;obtain ⟨f1,f2,vs,f3,f4⟩:=Pf G hf
    have hz:∃i z,cfg.P.info? e=some i∧i.zero=some z∧i.size=cfg.P.cellsOf e∧i.bytes=cfg.P.bytesOf e∧z.cells.size=cfg.P.cellsOf e:=by
     unfold zeroCells at hzz
     cases hi:cfg.P.info? e with
     | none=>simp [hi] at hzz
     | some i=>
       cases hz:i.zero with
       | none=>simp [hi,hz] at hzz
       | some z=>
         refine ⟨i,z,rfl,hz,by simp [Program.cellsOf,hi],by simp [Program.bytesOf,hi],?_⟩;simp only [hi,hz,Option.bind_some,Option.map_some,Option.some.injEq] at hzz;have:=cq (c8 (env:=env) (N:=0) z);rw [hzz] at this;simpa using this.symm
    obtain ⟨inf,z,hi,rv,UG,Y4,UH⟩:=hz
    have hlen:(vs.take (n*cfg.P.cellsOf e)).length=n*cfg.P.cellsOf e:=by
     rw [List.length_take,←cq f4];omega
    have afc:ct env H.length (cs.take (n*cfg.P.cellsOf e)) (vs.take (n*cfg.P.cellsOf e)):=vT _ f4
    have acn:∀j q,(vs.take (n*cfg.P.cellsOf e))[j]? =some q→w.cell? ⟨(env hh).block,(env hh).off+j,none⟩=some q:=fun j q hq=>by
     refine f3 j q ?_;rw [List.getElem?_take] at hq;split at hq
     ·exact hq
     ·cases hq
    have hAe:A=some ⟨(env hh).block,(env hh).off,none⟩:=by
     rw [hA hn];simp [HV.addr]
    obtain ⟨v',w',r1,r2,r3,r4,r5⟩:=jy w 0 t ty e inf z (cfg.P.cellsOf e) (cfg.P.bytesOf e) ht hi rv UG Y4 UH YO (.slice none 0 0) 0 [] ⟨by simp,.inl ⟨rfl,rfl⟩⟩ A n c (vs.take (n*cfg.P.cellsOf e)) hlen
     (fun _=>⟨_,hAe,KJ acn⟩) (yG kW afc) (by unfold maxLen;omega) (Nat.le_trans (Nat.mul_le_mul (by omega) hby) (by omega:1000000*100000≤140737488355328)) (Nat.zero_le _)
    have Qx:w'.ownsRow 0 e (cfg.P.cellsOf e) v' n (vs.take (n*cfg.P.cellsOf e)):=by simpa using r2
    have dN:(Value.slice none 0 0).ownBlock=none:=rfl;rcases Qx.2 with ⟨_,h0⟩ | ⟨g,cap,eW,hv,_,hg,ae5,aeD,pX,sq⟩
    ·omega
    ·subst hv
     have hgs:g=w.heap.size:=by
      rcases r5 with h | h
      ·cases h
      ·simpa [Value.ownBlock] using h
     have hgl:g < w'.heap.size:=(Array.getElem?_eq_some_iff.1 hg).1;refine ⟨_,w',r1,eT (hv:=⟨g,0,cfg.P.cellsOf e,.slice none 0 0,[]⟩) ?_ ?_ ((gR.refl M w).grown r3 (cg _ _ _ _ _ r1) (fun q hq=>by cases hq))⟩
     ·refine G.push _ _ r3.size (fun q hq=>r3.block q hq (by simp [dN])) ?_ (fun b hb=>?_)
      ·refine ⟨rfl,⟨hgl,hM g (by omega)⟩,vs.take (n*cfg.P.cellsOf e),fun j q hq=>?_,fN (by omega) (Env.l6 env _ _) afc⟩;rw [Nat.zero_add,cell_of_row w' _ j _ _ _ hg];rw [←sq] at hq;rw [List.getElem?_take] at hq;split at hq
       ·simpa using hq
       ·cases hq
      ·simp only [av.has] at hb;omega
     ·have cI:H.length < H.length+1:=Nat.lt_succ_self _
      have ha:some (⟨g,0,none⟩:Addr)=some (((env.set H.length ⟨g,0,cfg.P.cellsOf e,.slice none 0 0,[]⟩) H.length).addr 0 0):=by
       rw [Env.aU];simp [HV.addr]
      exact And.intro cI (Exists.intro _ (Exists.intro _ (And.intro rfl (And.intro ae5 (And.intro aeD (And.intro (fun h=>by cases h) (fun _=>ha)))))))
   ·exact h.elim
  ·exact h.elim
 ·exact h.elim
theorem Je (cfg:aT cod) {H:Heap cod} {w:World} {M:Nat→Prop} {t ty:TypeId} {hh n:Nat} {x:SV} {u v:Value} {out:Out cod} (h:(dA cfg H t (.c (.own hh n)) x).ah out) (G:Good env H w M) (hM:∀k,w.heap.size≤k→M k) (hs:aS env H.length (.c (.own hh n)) u) (hx:aS env H.length x v):
 ∃(k:Nat) (l l':List (cod k).α) (mw:TypeId),getObj H hh= .own k l mw∧out={v:=.c (.own hh (n+l'.length)),H:=(H.set hh (.own k (l++l') mw)).map (av.aX (Cell.bR [hh])),kill:=[hh]}∧
  ∃v' w' y,(Builtin.append_ #[t,t] ty #[u,v]).run cfg.P w= .ok v' w'∧w.heap.size≤w'.heap.size∧(∀q,q < w.heap.size→some q≠(env hh).val.ownBlock→w'.heap[q]? =w.heap[q]?)∧
   (∀aK N',bH aK N' y w' M (.own k (l++l') mw))∧(y.val.ownBlock=(env hh).val.ownBlock∨y.val.ownBlock=some w.heap.size)∧gR M w w'∧∀(aK:Env) N' q,q < N'→aK q=y→bZ aK N' (.own q (n+l'.length)) v':=by
 unfold dA at h;split at h
 ·rename_i e ht;split at h
  ·unfold fk at h;split at h
   ·rename_i e0;cases e0
   ·exact h.elim
  ·rename_i k hk;split at h
   ·rename_i hc;obtain ⟨vA,kU,Dz⟩:=hc;rw [T.aw] at h;obtain ⟨l',gP,h⟩:=h;obtain ⟨A,m,c,rfl,hm,hmc,mA,hA⟩:=nM gP G hx;subst hm
    have hz:∃z,(cfg.P.info? e).map (fun i=>(i.zero,i.size,i.bytes))=some (some z,(cod k).size,cfg.P.bytesOf e)∧z.cells.size=(cod k).size:=by
     unfold zeroCells at Dz
     cases hi:cfg.P.info? e with
     | none=>simp [hi] at Dz
     | some i=>
       cases hz:i.zero with
       | none=>simp [hi,hz] at Dz
       | some z=>
         refine ⟨z,by simp [hz,←vA,Program.cellsOf,Program.bytesOf,hi],?_⟩;simp only [hi,hz,Option.bind_some,Option.map_some,Option.some.injEq] at Dz;have:=cq (c8 (env:=env) (N:=0) z);rw [Dz,vA] at this;simpa using this.symm
    obtain ⟨z,hz,UH⟩:=hz;obtain ⟨i,hi,rv,UG,Y4⟩:=info_parts hz;have ZB:=sf (cod k) l';simp only at h;split at h
    ·rename_i k' l mw ho;split at h
     ·rename_i hku;subst hku;split at h
      ·rename_i Np;subst Np;rw [T.ak,T.ad] at h;obtain ⟨hb,rfl⟩:=h;have kV:=aE ho (by simp);obtain ⟨o1,o2,o3,o4,o5⟩:=G.obj hh _ kV;obtain ⟨cI,e9,A0,c0,Rx,hs2,hs3,hs4⟩:=hs
       have hn:n=l.length:=by
        rw [←e9,Rx] at o3;rcases o3.2 with ⟨e,hz⟩ | ⟨g,cap,eW,e,_⟩
        ·simp only [Value.slice.injEq] at e;omega
        ·simp only [Value.slice.injEq] at e;omega
       subst hn
       obtain ⟨v',w',r1,r2,r3,r4,r5⟩:=jy w 0 t ty mw i z (cod k').size (cfg.P.bytesOf mw) ht hi rv UG Y4 UH (cod k').pos u l.length (aN (cod k') l) (by rw [e9];exact o3) A l'.length c (aN (cod k') l') (bB _ _) hA ZB
        (by unfold maxLen;omega) (Nat.le_trans (Nat.mul_le_mul hb kU) (by omega)) (Nat.zero_le _)
       have Qx:w'.ownsRow 0 mw (cod k').size v' (l++l').length (aN (cod k') (l++l')):=by rw [List.length_append,dW];exact r2
       refine ⟨k',l,l',mw,ho,rfl,v',w',⟨v'.ownBlock.getD 0,0,(cod k').size,v',[]⟩,r1,r3.size,fun q hq bP=>r3.block q hq (by rw [e9];exact bP),fun aK N'=>oy Qx (fun b hb=>?_) _ _,?_,(gR.refl M w).grown r3 (cg _ _ _ _ _ r1) (fun q hq=>?_),fun aK N' q hq he=>?_⟩
       ·rcases r5 with r5 | r5
        ·rw [r5,e9] at hb;exact o4 b hb
        ·rw [r5] at hb;simp only [Option.some.injEq] at hb;exact hM b (by omega)
       ·simpa [e9] using r5
       ·rw [e9] at hq;exact o4 q hq
       ·exact nJ Qx (by simp) _ hq he
      ·exact h.elim
     ·exact h.elim
    ·exact h.elim
   ·exact h.elim
 ·exact h.elim
theorem CY (cfg:aT cod) {H:Heap cod} {w:World} {M:Nat→Prop} {t ty:TypeId} {s x:SV} {u v:Value} {out:Out cod} (h:(dA cfg H t s x).ah out) (G:Good env H w M) (hM:∀k,w.heap.size≤k→M k) (hs:aS env H.length s u) (hx:aS env H.length x v):
 ∃v' w',(Builtin.append_ #[t,t] ty #[u,v]).run cfg.P w= .ok v' w'∧fw env H w M out v' w':=by
 unfold dA at h;split at h
 ·rename_i e ht;split at h
  ·exact Ac cfg ht h G hM hs hx
  ·rename_i k hk;split at h
   ·rename_i hc;obtain ⟨vA,kU,Dz⟩:=hc;rw [T.aw] at h;obtain ⟨l',gP,h⟩:=h;obtain ⟨A,m,c,rfl,hm,hmc,mA,hA⟩:=nM gP G hx;subst hm
    have hz:∃z,(cfg.P.info? e).map (fun i=>(i.zero,i.size,i.bytes))=some (some z,(cod k).size,cfg.P.bytesOf e)∧z.cells.size=(cod k).size:=by
     unfold zeroCells at Dz
     cases hi:cfg.P.info? e with
     | none=>simp [hi] at Dz
     | some i=>
       cases hz:i.zero with
       | none=>simp [hi,hz] at Dz
       | some z=>
         refine ⟨z,by simp [hz,←vA,Program.cellsOf,Program.bytesOf,hi],?_⟩;simp only [hi,hz,Option.bind_some,Option.map_some,Option.some.injEq] at Dz;have:=cq (c8 (env:=env) (N:=0) z);rw [Dz,vA] at this;simpa using this.symm
    obtain ⟨z,hz,UH⟩:=hz;obtain ⟨i,hi,rv,UG,Y4⟩:=info_parts hz;have ZB:=sf (cod k) l';split at h
    ·rename_i hh n;split at h
     ·rename_i k' l mw ho;split at h
      ·rename_i hku;subst hku;split at h
       ·rename_i Np;subst Np;rw [T.ak,T.ad] at h;obtain ⟨hb,rfl⟩:=h;have kV:=aE ho (by simp);obtain ⟨o1,o2,o3,o4,o5⟩:=G.obj hh _ kV;obtain ⟨cI,e9,A0,c0,Rx,hs2,hs3,hs4⟩:=hs
        have hn:n=l.length:=by
         rw [←e9,Rx] at o3;rcases o3.2 with ⟨e,hz⟩ | ⟨g,cap,eW,e,_⟩
         ·simp only [Value.slice.injEq] at e;omega
         ·simp only [Value.slice.injEq] at e;omega
        subst hn
        obtain ⟨v',w',r1,r2,r3,r4,r5⟩:=jy w 0 t ty mw i z (cod k').size (cfg.P.bytesOf mw) ht hi rv UG Y4 UH (cod k').pos u l.length (aN (cod k') l) (by rw [e9];exact o3) A l'.length c (aN (cod k') l') (bB _ _) hA ZB
         (by unfold maxLen;omega) (Nat.le_trans (Nat.mul_le_mul hb kU) (by omega)) (Nat.zero_le _)
        have Qx:w'.ownsRow 0 mw (cod k').size v' (l++l').length (aN (cod k') (l++l')):=by rw [List.length_append,dW];exact r2
        refine ⟨v',w',r1,env.set hh ⟨v'.ownBlock.getD 0,0,(cod k').size,v',[]⟩,fun q hq bP=>Env.aD _ _ (by rintro rfl;exact bP (by simp)),by simp,?_,?_,?_⟩
        ·simp only [List.length_map,List.length_set];exact nJ Qx (by simp) _ cI (Env.aU _ _ _)
        ·refine G.ads kV r3.size (fun q hq bP=>r3.block q hq (by rw [e9];exact bP)) _ (oy Qx (fun b hb=>?_) _ _) ?_
         ·rcases r5 with r5 | r5
          ·rw [r5,e9] at hb;exact o4 b hb
          ·rw [r5] at hb;simp only [Option.some.injEq] at hb;exact hM b (by omega)
         ·simpa [e9] using r5
        ·refine (gR.refl M w).grown r3 (cg _ _ _ _ _ r1) (fun q hq=>?_);rw [e9] at hq;exact o4 q hq
       ·exact h.elim
      ·exact h.elim
     ·exact h.elim
    ·rename_i hh i0 n;by_cases rq:cfg.emp=true
     ·rw [if_pos rq,T.ak,T.ad] at h;obtain ⟨h0,rfl⟩:=h;have Xx:=hs;obtain ⟨cI,A0,c0,Rx,hs2,hs3,hs4,hs5⟩:=hs;subst Rx;rw [h0];exact ⟨_,w,lq w t ty e i ht hi A0 A n c0 c hs2,env,(eH.refl _ _).but _,Nat.le_refl _,Xx,G,gR.refl M w⟩
     rw [if_neg rq] at h;rcases gJ h with ⟨⟨h0,_⟩,rfl⟩ | h
     ·have Xx:=hs;obtain ⟨cI,A0,c0,Rx,hs2,hs3,hs4,hs5⟩:=hs;subst Rx;rw [h0];exact ⟨_,w,lq w t ty e i ht hi A0 A n c0 c hs2,env,(eH.refl _ _).but _,Nat.le_refl _,Xx,G,gR.refl M w⟩
     rw [T.aw] at h;obtain ⟨l,hl,h⟩:=h;rw [T.ak,T.ad] at h;obtain ⟨⟨hp,hb⟩,rfl⟩:=h;have Xx:=hs;obtain ⟨cI,A0,c0,Rx,hs2,hs3,hs4,hs5⟩:=hs;obtain ⟨A1,m1,c1,e1,hm1,_,_,hA1⟩:=nM hl G Xx;rw [Rx] at e1;simp only [Value.slice.injEq] at e1;obtain ⟨rfl,rfl,rfl⟩:=e1;have hcn:=hs4 rfl;subst hcn;subst hm1;obtain ⟨a',rfl,Nh⟩:=hA hp
     have grow:∃v' w',(Builtin.append_ #[t,t] ty #[u,.slice (some a') l'.length c]).run cfg.P w= .ok v' w'∧w'.ownsRow 0 e (cod k).size v' (l.length+l'.length) (aN (cod k) l++aN (cod k) l')∧w.grownBy w' none∧v'.ownBlock=some w.heap.size:=by
      subst Rx;have h63:l.length+l'.length≤maxLen:=by unfold maxLen;omega
      have hby:(l.length+l'.length)*i.bytes≤140737488355328:=by rw [Y4];exact Nat.le_trans (Nat.mul_le_mul hb kU) (by omega)
      have Pt:=grownCap_ge w (l.length+l'.length) l.length e;have hle:=grownCap_le_maxLen w (l.length+l'.length) l.length e h63
      have own:(w.drew.alloc (.cells ((aN (cod k) l).toArray++(aN (cod k) l').toArray++Builtin.zeroCells z.cells (grownCap w (l.length+l'.length) l.length e - (l.length+l'.length))) e)).ownsRow 0 e (cod k).size
       (.slice (some ⟨w.heap.size,0,none⟩) (l.length+l'.length) (grownCap w (l.length+l'.length) l.length e)) (l.length+l'.length) (aN (cod k) l++aN (cod k) l'):=by
       have hlen:(aN (cod k) l++aN (cod k) l').length=(l.length+l'.length)*(cod k).size:=by rw [List.length_append,bB,bB,Nat.add_mul]
       refine ⟨hlen,.inr ⟨w.heap.size,_,_,rfl,Nat.zero_le _,heap_alloc_new w.drew _,Pt,hle,?_,?_⟩⟩
       ·simp only [Array.size_append,List.size_toArray,size_zeroCells,UH,bB,←Nat.add_mul];congr 1;omega
       ·simp only [Array.toList_append,List.append_assoc];rw [←List.append_assoc,←hlen];exact List.take_left
      have gr:w.grownBy (w.drew.alloc (.cells ((aN (cod k) l).toArray++(aN (cod k) l').toArray++Builtin.zeroCells z.cells (grownCap w (l.length+l'.length) l.length e - (l.length+l'.length))) e)) none:=
       ⟨rfl,rfl,rfl,by simp,fun q hq _=>heap_alloc_old w.drew _ hq⟩
      rcases A0 with _ | b
      ·have h0:l.length=0:=by
        rcases Nat.eq_zero_or_pos l.length with h0 | h0
        ·exact h0
        ·have:=hs5 h0;cases this
       have hl0:l=[]:=List.eq_nil_of_length_eq_zero h0;subst hl0;have hr:=run_append_nil (P:=cfg.P) w t ty e i z ht hi rv a' l'.length c (aN (cod k) l') (by rw [bB,UG]) Nh hp (by omega) (by simp only [List.length_nil,Nat.zero_add] at hby;omega);refine ⟨_,_,hr,?_,?_,rfl⟩
       ·simpa [aN] using own
       ·simpa [aN] using gr
      ·have hr:=run_append_grow (P:=cfg.P) w t ty e i z ht hi rv b l.length l.length (aN (cod k) l) (by rw [bB,UG]) (fun j q hq=>by
        rcases Nat.eq_zero_or_pos l.length with h0 | h0
        ·have hl0:l=[]:=List.eq_nil_of_length_eq_zero h0;rw [hl0] at hq;simp [aN] at hq
        ·obtain ⟨b',e1,e2⟩:=hA1 h0;simp only [Option.some.injEq] at e1;subst e1;exact e2 j q hq) a' l'.length c (aN (cod k) l') (by rw [bB,UG]) Nh (by omega) (by omega) (growslice_fits (by omega) hby)
       exact ⟨_,_,hr,own,gr,rfl⟩
     obtain ⟨v',w',r1,r2,r3,r4⟩:=grow;have Qx:w'.ownsRow 0 e (cod k).size v' (l++l').length (aN (cod k) (l++l')):=by rw [List.length_append,dW];exact r2
     refine ⟨v',w',r1,env.set H.length ⟨v'.ownBlock.getD 0,0,(cod k).size,v',[]⟩,(Env.l6 env _ _).but _,by simp,?_,?_,(gR.refl M w).grown r3 (cg _ _ _ _ _ r1) (fun q hq=>by cases hq)⟩
     ·simp only [List.length_append,List.length_singleton];exact nJ Qx (by simp) _ (by omega) (Env.aU _ _ _)
     ·refine G.push _ _ r3.size (fun q hq=>r3.block q hq (by simp)) (oy Qx (fun b hb=>?_) _ _) (fun b hb=>?_)
      ·rw [r4] at hb;simp only [Option.some.injEq] at hb;exact hM b (by omega)
      ·simp only [av.has,r4,Option.some.injEq] at hb;omega
    ·obtain ⟨hb,rfl⟩:=jK h;have hu:u= .slice none 0 0:=hs;subst hu
     obtain ⟨v',w',r1,r2,r3,r4,r5⟩:=jy w 0 t ty e i z (cod k).size (cfg.P.bytesOf e) ht hi rv UG Y4 UH (cod k).pos (.slice none 0 0) 0 [] ⟨by simp,.inl ⟨rfl,rfl⟩⟩ A l'.length c (aN (cod k) l') (bB _ _) hA
      ZB (by unfold maxLen;omega) (Nat.le_trans (Nat.mul_le_mul (by omega) kU) (by omega:1000000*100000≤140737488355328)) (Nat.zero_le _)
     have Qx:w'.ownsRow 0 e (cod k).size v' l'.length (aN (cod k) l'):=by simpa using r2
     have dN:(Value.slice none 0 0).ownBlock=none:=rfl;refine ⟨v',w',r1,env.set H.length ⟨v'.ownBlock.getD 0,0,(cod k).size,v',[]⟩,(Env.l6 env _ _).but _,by simp,?_,?_,(gR.refl M w).grown r3 (cg _ _ _ _ _ r1) (fun q hq=>by cases hq)⟩
     ·simp only [List.length_append,List.length_singleton];exact nJ Qx rfl _ (by omega) (Env.aU _ _ _)
     ·refine G.push _ _ r3.size (fun q hq=>r3.block q hq (by simp [dN])) (oy Qx (fun b hb=>?_) _ _) (fun b hb=>?_)
      ·rcases r5 with h | h
       ·rw [h,dN] at hb;cases hb
       ·rw [h] at hb;simp only [Option.some.injEq] at hb;exact hM b (by omega)
      ·simp only [av.has] at hb;rcases r5 with h | h
       ·rw [h,dN] at hb;cases hb
       ·rw [h] at hb;simp only [Option.some.injEq] at hb;omega
    ·exact h.elim
   ·exact h.elim
 ·exact h.elim
end
end Sym
end Go.Proofs.YtcjagpfbhnmggaaGreatDoor
