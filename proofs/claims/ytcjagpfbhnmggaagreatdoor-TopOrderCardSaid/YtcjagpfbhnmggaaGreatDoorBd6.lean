/- Parts of the proof. -/
import Derived.Test.YtcjagpfbhnmggaaGreatDoorBd5
namespace Go.Proofs.YtcjagpfbhnmggaaGreatDoor
namespace Sym
open Go.RowKit
section
variable {cod:Nat→aO} {P:Program} {env:Env} {N:Nat}
def gT (w:World):Nat→Prop:=fun k=>w.heap.size≤k
structure Sound (P:Program) (cod:Nat→aO) (g:FuncId) (s:aH cod):Prop where
 enters:∀args w,(callFunc g args).run P w= .ok (.enter g args) w
 calls:∀(args:List SV) (H:Heap cod) (env:Env) (w:World) (vs:List Value) (r:SV) (news:Heap cod),H.all (fun o=>!o.wr)=true→Good env H w (gT w)→F2 (aS env H.length) args vs→(s args H).ah (r,news)→
  Calls P g vs.toArray w fun e w'=>∃v aK,e= .returned v∧eH H.length env aK∧aS aK (H.length+news.length) r v∧Good aK (H++news) w' (gT w)∧Blw w w'
def dG (H:Heap cod) (env:Env) (w:World):Nat→Prop:=fun b=>w.heap.size≤b∨∃(h:Nat) (o:av cod),H[h]? =some o∧o.wr=true∧o.has (env h) b
def Live (H:Heap cod) (i:Nat):Prop:=i < H.length→(getObj H i).wr=true
structure dz (P:Program) (cod:Nat→aO) (g:FuncId) (kp:Bool) (s:aH cod):Prop where
 enters:∀args w,(callFunc g args).run P w= .ok (.enter g args) w
 calls:∀(args:List SV) (H:Heap cod) (env:Env) (w:World) (vs:List Value) (r:SV) (H':Heap cod),Good env H w (dG H env w)→F2 (aS env H.length) args vs→(s args H).ah (r,H')→
  Calls P g vs.toArray w fun e w'=>∃v aK,e= .returned v∧(∀i,i < H.length→kp=true∨(getObj H i).bQ=false→aK i=env i)∧aS aK H'.length r v∧
   (∀i o,H'[i]? =some o→Live H i→bH aK H'.length (aK i) w' (dG H env w) o)∧
   (∀i j o o' b,i≠j→H'[i]? =some o→H'[j]? =some o'→Live H i→Live H j→o.wr=true→o.has (aK i) b→¬o'.has (aK j) b)∧gR (dG H env w) w w'
abbrev dX (P:Program) (cod:Nat→aO) (g:FuncId) (s:aH cod):Prop:=dz P cod g false s
def kB (cfg:aT cod):Prop:=(∀g s,cfg.lB g=some s→Sound cfg.P cod g s)∧(∀g s,cfg.Ch g=some s→dz cfg.P cod g s.1 s.2)
def eL (cfg:aT cod):Prop:=(∀g s,cfg.lB g=some s→Sound cfg.P cod g s)∧(∀g s,cfg.Ch g=some s→dz cfg.P cod g s.1 s.2)∧∀d,cfg.place d=none
theorem eL.ok {cfg:aT cod} (h:eL cfg):kB cfg:=⟨h.1,h.2.1⟩
theorem p7 {x:HV} {w:World} {M M':Nat→Prop} {o:av cod} (hM:o.wr=true→∀b,o.has x b→M' b) (h:bH env N x w M o):bH env N x w M' o:=by
 cases o with
 | aF cs ty=>obtain ⟨h1,h2,h3⟩:=h;exact ⟨h1,hM rfl _ rfl,h3⟩
 | aY cs=>exact h
 | gL cs=>obtain ⟨h1,⟨h2,h3⟩,h4⟩:=h;exact ⟨h1,⟨h2,hM rfl _ rfl⟩,h4⟩
 | arr t l ty=>obtain ⟨h1,h2,h3,h4⟩:=h;exact ⟨h1,h2,hM rfl _ rfl,h4⟩
 | iC pre t m l post ty=>obtain ⟨h1,h2,h3,h4⟩:=h;exact ⟨h1,h2,hM rfl _ rfl,h4⟩
 | own t l ty=>obtain ⟨h1,h2,h3,h4,h5⟩:=h;exact ⟨h1,h2,h3,fun b hb=>hM rfl b hb,h5⟩
 | aB t l=>exact h
 | cL t LL op=>exact h
 | cj t LL js cs ty tyr=>
   obtain ⟨h1,h2,h3,h4,h7,h8,h9,Ap⟩:=h
   exact ⟨h1,h2,h3,h4,fun b hb=>hM rfl b (.inl hb),h8,fun j v l hj hv hl=>⟨(h9 j v l hj hv hl).1,fun b hb=>⟨hM rfl b (.inr ⟨j,v,hv,hj,hb⟩),((h9 j v l hj hv hl).2 b hb).2⟩⟩,Ap⟩
 | dead=>trivial
theorem iz {x:HV} {w:World} {M M':Nat→Prop} {o:av cod} (hM:∀k,M k→M' k) (h:bH env N x w M o):bH env N x w M' o:=p7 (fun hw b hb=>hM b (cR h hw hb)) h
theorem jC {aK:Env} {N':Nat} {ρ:Nat→Nat} {c:Cell} {v:Value} (hρ:∀k∈c.hs,k < N→ρ k < N'∧aK (ρ k)=env k) (h:bZ env N c v):bZ aK N' (c.gp ρ) v:=by
 cases c<;>simp only [bZ,Cell.hs,Cell.gp] at* <;>try exact h
 case ptr k i o=>
  obtain ⟨h1,h2⟩:=hρ k (by simp) h.1;exact ⟨h1,by rw [h2];exact h.2⟩
 case ai k i n t=>
  obtain ⟨g1,A,c,g2,g3,g4,g5,g6⟩:=h;obtain ⟨h1,h2⟩:=hρ k (by simp) g1;exact ⟨h1,A,c,g2,g3,g4,g5,by rw [h2];exact g6⟩
 case own k n=>
  obtain ⟨g1,g2,A,c,g3,g4,g5,g6⟩:=h;obtain ⟨h1,h2⟩:=hρ k (by simp) g1;exact ⟨h1,by rw [h2];exact g2,A,c,g3,g4,g5,by rw [h2];exact g6⟩
 case fn f dC=>
  obtain ⟨g1,rfl⟩:=h;refine ⟨fun c hc=>?_,?_⟩
  ·obtain ⟨a,ha,rfl⟩:=List.mem_map.1 hc;exact (hρ a.1 (List.mem_map.2 ⟨a,ha,rfl⟩) (g1 a ha)).1
  ·congr 2;rw [List.map_map]
   exact List.map_congr_left fun c hc=>by
    have:=(hρ c.1 (List.mem_map.2 ⟨c,hc,rfl⟩) (g1 c hc)).2;simp [this]
theorem vR {aK:Env} {N':Nat} {ρ:Nat→Nat} {c:Cell} {v:Value} (hρ:∀k∈c.hs,k < N→ρ k < N'∧aK (ρ k)=env k) (h:bZ env N c v):bZ aK N' (c.ro ρ) v:=by
 unfold Cell.ro;split
 ·rename_i k n;obtain ⟨g1,g2,A,c,g3,g4,g5,g6⟩:=h;obtain ⟨h1,h2⟩:=hρ k (by simp [Cell.hs]) g1;exact ⟨h1,A,c,g3,g4,g5,(fun h=>by cases h),by rw [h2];exact g6⟩
 ·exact h
 ·exact jC hρ h
theorem dZ {f:Cell→Cell} {aK:Env} {N':Nat}:∀{cs:List Cell} {vs:List Value},(∀c∈cs,∀v,bZ env N c v→bZ aK N' (f c) v)→ct env N cs vs→ct aK N' (cs.map f) vs
 | _,_,_,.nil=>.nil
 | _,_,hf,.cons h t=>.cons (hf _ (List.mem_cons_self ..) _ h) (dZ (fun c hc=>hf c (List.mem_cons_of_mem _ hc)) t)
theorem MF {f:Cell→Cell} {aK:Env} {N':Nat} {x:SV} {v:Value} (hf:∀c,(∀k∈c.hs,k∈x.hs)→∀v,bZ env N c v→bZ aK N' (f c) v) (h:fi env N x v):fi aK N' (x.aX f) v:=by
 cases x with
 | c x=>exact hf x (fun k hk=>hk) _ h
 | agg cs=>
   obtain ⟨vs,h1,h2⟩:=h
   exact ⟨vs,h1,dZ (fun c hc=>hf c fun k hk=>List.mem_flatMap.2 ⟨c,hc,hk⟩) h2⟩
 | aP l=>exact h.elim
theorem lE {f:Cell→Cell} {aK:Env} {N':Nat} {x:SV} {v:Value} (hf:∀c,(∀k∈c.hs,k∈x.hs)→∀v,bZ env N c v→bZ aK N' (f c) v) (h:aS env N x v):aS aK N' (x.aX f) v:=by
 cases x with
 | c x=>exact hf x (fun k hk=>hk) _ h
 | agg cs=>exact MF (x:=.agg cs) hf h
 | aP l=>
   obtain ⟨vs,h1,h2⟩:=h;refine ⟨vs,h1,?_⟩
   have:∀{l':List SV} {vs:List Value},(∀y∈l',y∈l)→F2 (fi env N) l' vs→F2 (fi aK N') (l'.map fun | .c x=>.c (f x) | .agg cs=>.agg (cs.map f) | v=>v) vs:=by
    intro l' vs oo hl
    induction hl with
    | nil=>exact .nil
    | @cons a b l0 m Nf _ ih=>
      have ha:=oo a (List.mem_cons_self ..);refine .cons ?_ (ih fun y hy=>oo y (List.mem_cons_of_mem _ hy))
      cases a with
      | c x=>exact hf x (fun k hk=>List.mem_flatMap.2 ⟨_,ha,hk⟩) _ Nf
      | agg cs=>
        obtain ⟨vs,h1,h2⟩:=Nf
        exact ⟨vs,h1,dZ (fun c hc=>hf c fun k hk=>List.mem_flatMap.2 ⟨_,ha,List.mem_flatMap.2 ⟨c,hc,hk⟩⟩) h2⟩
      | aP l=>exact Nf.elim
   exact this (fun _ h=>h) h2
theorem nG {f:Cell→Cell} {aK:Env} {N':Nat} {x:HV} {w:World} {M:Nat→Prop} {o:av cod} (hf:∀c,(∀k∈c.hs,k∈o.hs)→∀v,bZ env N c v→bZ aK N' (f c) v) (h:bH env N x w M o):bH aK N' x w M (o.aX f):=by
 cases o<;>simp only [bH,av.aX] at h ⊢ <;>try exact h
 ·obtain ⟨h1,h2,vs,h3,h4⟩:=h;exact ⟨h1,h2,vs,h3,dZ (fun c hc=>hf c fun k hk=>List.mem_flatMap.2 ⟨c,hc,hk⟩) h4⟩
 ·obtain ⟨h1,h2,vs,h3,h4⟩:=h;exact ⟨h1,h2,vs,h3,dZ (fun c hc=>hf c fun k hk=>List.mem_flatMap.2 ⟨c,hc,hk⟩) h4⟩
 ·obtain ⟨h1,h2,vs,h3,h4⟩:=h;exact ⟨h1,h2,vs,h3,dZ (fun c hc=>hf c fun k hk=>List.mem_flatMap.2 ⟨c,hc,hk⟩) h4⟩
 ·obtain ⟨h1,vs,h2,h3,h4,h5,h6,h7⟩:=h;refine ⟨h1,vs,h2,h3,h4,h5,h6,fun p hp=>?_⟩;obtain ⟨q,hq,rfl⟩:=Option.map_eq_some_iff.1 hp;subst hq;obtain ⟨v,hv,hc⟩:=h7 q rfl;exact ⟨v,hv,hf _ (fun k hk=>hk) _ hc⟩
 ·obtain ⟨h1,h2,h3,⟨vs,h4,h5,h6⟩,h7⟩:=h;refine ⟨h1,h2,⟨h3.1,by rw [List.length_map];exact h3.2⟩,⟨vs,h4,h5,fun q j c hj hc=>?_⟩,h7⟩;rw [List.getElem?_map] at hc;obtain ⟨c0,YO,rfl⟩:=Option.map_eq_some_iff.1 hc;obtain ⟨v,hv,hr⟩:=h6 q j c0 hj YO;exact ⟨v,hv,hf _ (fun k hk=>List.mem_flatMap.2 ⟨c0,List.mem_of_getElem? YO,hk⟩) _ hr⟩
theorem Qf {aK:Env} {N':Nat} {ρ:Nat→Nat} {x:HV} {w:World} {M M':Nat→Prop} {o:av cod} (hρ:∀k∈o.hs,k < N→ρ k < N'∧aK (ρ k)=env k) (h:bH env N x w M o):bH aK N' x w M' (o.ro ρ):=by
 cases o with
 | aF cs ty=>
   obtain ⟨h1,h2,vs,h3,h4⟩:=h
   exact ⟨h1,(Array.getElem?_eq_some_iff.1 h3).1,vs,fun j u hu=>(by rw [h1,Nat.zero_add,cell_of_row w _ j _ _ _ h3];simpa using hu),
    dZ (fun c hc v hv=>vR (fun k hk=>hρ k (List.mem_flatMap.2 ⟨c,hc,hk⟩)) hv) h4⟩
 | aY cs=>
   obtain ⟨h1,h2,vs,h3,h4⟩:=h
   exact ⟨h1,h2,vs,h3,dZ (fun c hc v hv=>vR (fun k hk=>hρ k (List.mem_flatMap.2 ⟨c,hc,hk⟩)) hv) h4⟩
 | gL cs=>
   obtain ⟨h1,h2,vs,h3,h4⟩:=h
   exact ⟨h1,h2.1,vs,h3,dZ (fun c hc v hv=>vR (fun k hk=>hρ k (List.mem_flatMap.2 ⟨c,hc,hk⟩)) hv) h4⟩
 | arr t l ty=>
   obtain ⟨r1,r2⟩:=dR (ty:=ty) h (.inl rfl)
   exact ⟨r1,r2,fun _=>(Array.getElem?_eq_some_iff.1 h.2.2.2).1⟩
 | own t l ty=>
   obtain ⟨r1,r2⟩:=dR (ty:=ty) h (.inr (.inl rfl));refine ⟨r1,r2,fun hl=>?_⟩;obtain ⟨h1,h2,h3,h4,h5⟩:=h;rcases h3.2 with ⟨hv,hn⟩ | ⟨g,cap,eW,hv,hb,hg,_⟩
   ·exact absurd (List.eq_nil_of_length_eq_zero hn) hl
   ·have e:=h5 _ _ _ hv;simp only [Addr.mk.injEq,and_true] at e;rw [←e]
    exact (Array.getElem?_eq_some_iff.1 hg).1
 | aB t l=>exact h
 | cL t LL op=>
   obtain ⟨h1,vs,h2,h3,h4,h5,h6,h7⟩:=h
   exact ⟨h1,vs,h2,h3,h4,h5,h6,fun p hp=>by cases hp⟩
 | iC pre t m l post ty=>trivial
 | cj t LL js cs ty tyr=>
   cases js with
   | cons j js=>trivial
   | nil=>
     by_cases Np:ty < 1000000;rotate_left
     ·simp only [av.ro,if_neg Np];trivial
     simp only [av.ro,if_pos Np];obtain ⟨h1,h2,h3,⟨vs,h4,h5,h6⟩,h7,h8,h9,Ap⟩:=h;have h3:=h3.1;have hn:∀j:Nat,j∉([]:List Nat):=fun j hj=>by cases hj
     have ym:vs=x.rows:=List.ext_getElem? fun j=>PR Np (h5 j (hn j));rw [show tyO ty=ty from if_pos Np] at h4;subst ym
     have bP:LL≠[]→∃g cap eW,x.val= .slice (some ⟨g,0,none⟩) LL.length cap∧g=x.block∧w.heap[g]? =some (.cells eW ty (0,0)):=fun hl=>by
      rcases h4.2 with ⟨hx,hz⟩ | ⟨g,cap,eW,hx,_,hg,_⟩
      ·exact absurd (List.eq_nil_of_length_eq_zero hz) hl
      ·have e:=h8 _ _ _ hx;simp only [Addr.mk.injEq,and_true] at e;exact ⟨g,cap,eW,hx,e,hg⟩
     refine ⟨h2,x.rows,rfl,h3,fun j u hu=>?_,fun hl=>?_,fun j v l hv hl=>?_,fun p hp=>by cases hp⟩
     ·have hl:LL≠[]:=by
       rintro rfl;have:x.rows=[]:=List.eq_nil_of_length_eq_zero h3;rw [this] at hu;simp at hu
      obtain ⟨g,cap,eW,hx,hg,_⟩:=bP hl;have nz:=h4.cells (g:=g) (by simp [hx,Value.ownBlock]) j u hu;have yf:(⟨g,0,none⟩:Addr).add j=⟨g,j,none⟩:=by unfold Addr.add;split<;>simp_all
      rw [yf,hg] at nz;rw [h1,Nat.zero_add];exact nz
     ·obtain ⟨g,cap,eW,hx,hg,hh⟩:=bP hl;rw [←hg];exact (Array.getElem?_eq_some_iff.1 hh).1
     ·obtain ⟨o1,_⟩:=h9 j v l (hn j) hv hl;rcases o1.2 with ⟨hx,hz⟩ | ⟨g,cap,eW,hx,_,hg,vB,mA,_⟩
      ·refine ⟨none,0,by rw [hx,hz],by omega,by decide,fun gP=>absurd (List.eq_nil_of_length_eq_zero hz) gP⟩
      ·refine ⟨some ⟨g,0,none⟩,cap,hx,vB,mA,fun _=>⟨g,0,rfl,(Array.getElem?_eq_some_iff.1 hg).1,fun q u hu=>?_⟩⟩;have nz:=o1.cells (g:=g) (by simp [hx,Value.ownBlock]) q u hu;have yf:(⟨g,0,none⟩:Addr).add q=⟨g,q,none⟩:=by unfold Addr.add;split<;>simp_all
       rw [yf] at nz
       rwa [Nat.zero_add]
 | dead=>trivial
theorem abo (ρ:Nat→Nat) (o:av cod):(o.ro ρ).wr=false:=by
 cases o<;>try rfl
 rename_i js _ ty _
 cases js with
 | cons j js=>rfl
 | nil=>
   simp only [av.ro];split<;>rfl
theorem FD (cfg:aT cod) {H:Heap cod} {w:World} {M:Nat→Prop} {g:FuncId} {s:aH cod} (hS:Sound cfg.P cod g s) {args:List SV} {vs:List Value} {out:Out cod} (h:(qK cfg H g s args).ah out) (G:Good env H w M) (hM:∀k,w.heap.size≤k→M k)
 (ha:F2 (aS env H.length) args vs):(∀as w,(callFunc g as).run cfg.P w= .ok (.enter g as) w)∧Calls cfg.P g vs.toArray w fun e w'=>∃v,e= .returned v∧fw env H w M out v w':=by
 unfold qK at h
 ·obtain ⟨pY,yg⟩:=hS;refine ⟨pY,?_⟩;simp only at h;generalize hhs:reach H 3 (dh [] (args.flatMap SV.hs))=hs at h;split at h
  ·rename_i hc;obtain ⟨vA,kU⟩:=hc;rw [T.aw] at h;obtain ⟨⟨r,news⟩,hr,h⟩:=h;simp only at h;split at h
   ·rename_i Ns;obtain ⟨Ns,_,_⟩:=Ns;rw [T.ad] at h;subst h;have oo:∀k∈args.flatMap SV.hs,k∈hs:=fun k hk=>by simpa using List.all_eq_true.1 vA k hk
    have cI:∀k∈hs,k < H.length∧∀q∈(getObj H k).hs,q∈hs:=fun k hk=>by
     have:=List.all_eq_true.1 kU k hk;simp only [Bool.and_eq_true,decide_eq_true_eq] at this;exact ⟨this.1,fun q hq=>by simpa using List.all_eq_true.1 this.2 q hq⟩
    let oP:Env:=fun i=>env (hs.getD i 0)
    have hρ:∀k,k∈hs→hs.idxOf k < hs.length∧oP (hs.idxOf k)=env k:=fun k hk=>by
     have h1:=List.idxOf_lt_length_of_mem hk;refine ⟨h1,?_⟩;show env (hs.getD (hs.idxOf k) 0)=env k;simp [List.getD,List.getElem?_eq_getElem h1]
    have hlen:(hs.map fun h=>(getObj H h).ro fun h=>hs.idxOf h).length=hs.length:=List.length_map ..
    have aJ:F2 (aS oP (hs.map fun h=>(getObj H h).ro fun h=>hs.idxOf h).length) (args.map (SV.aX (Cell.ro fun h=>hs.idxOf h))) vs:=by
     rw [hlen]
     have:∀{l:List SV} {us:List Value},(∀x∈l,x∈args)→F2 (aS env H.length) l us→F2 (aS oP hs.length) (l.map (SV.aX (Cell.ro fun h=>hs.idxOf h))) us:=by
      intro l us hl hf
      induction hf with
      | nil=>exact .nil
      | @cons a b l0 m Nf _ ih=>
        refine .cons (lE (fun c pX v hv=>vR (fun k hk _=>?_) hv) Nf) (ih fun x hx=>hl x (List.mem_cons_of_mem _ hx));exact hρ k (oo k (List.mem_flatMap.2 ⟨a,hl a (List.mem_cons_self ..),pX k hk⟩))
     exact this (fun _ h=>h) ha
    have Uj:Good oP (hs.map fun h=>(getObj H h).ro fun h=>hs.idxOf h) w (gT w):=by
     refine ⟨fun i o ho=>?_,fun i i' o o' b _ ho _ hw=>?_,G.sr.bG (fun _ _ _ _=>rfl) fun p _ hl _ hm=>absurd hl (Nat.not_lt.2 hm)⟩
     ·rw [List.getElem?_map] at ho;obtain ⟨k,hk,rfl⟩:=Option.map_eq_some_iff.1 ho;have hkm:=List.mem_of_getElem? hk;rw [hlen];have e:oP i=env k:=by show env (hs.getD i 0)=env k;simp [List.getD,hk]
      rw [e];obtain ⟨fx,J5⟩:=cI k hkm;by_cases hd:getObj H k= .dead
      ·rw [hd];trivial
      ·exact Qf (fun q hq _=>hρ q (J5 q hq)) (G.obj k _ (dt hd))
     ·rw [List.getElem?_map] at ho;obtain ⟨k,hk,rfl⟩:=Option.map_eq_some_iff.1 ho;rw [abo] at hw;cases hw
    have gF:(hs.map fun h=>(getObj H h).ro fun h=>hs.idxOf h).all (fun o=>!o.wr)=true:=by
     rw [List.all_eq_true];intro o ho;obtain ⟨k,_,rfl⟩:=List.mem_map.1 ho;rw [abo];rfl
    refine (yg _ _ oP w vs r news gF Uj aJ hr).mono ?_;rintro e w' ⟨v,fp,rfl,z6,hv,hg2,Xs⟩;rw [hlen] at z6 hv
    let aK:Env:=fun k=>if k < H.length then env k else fp (k - H.length+hs.length)
    have yj:eH H.length env aK:=fun k hk=>by show (if k < H.length then env k else _)=env k;rw [if_pos hk]
    have Ue:∀i,i < hs.length+news.length→(if i < hs.length then hs.getD i 0 else H.length+(i - hs.length)) < H.length+news.length∧aK (if i < hs.length then hs.getD i 0 else H.length+(i - hs.length))=fp i:=fun i hi=>by
     split
     ·rename_i mB;have hm:hs.getD i 0∈hs:=by simp [List.getD,List.getElem?_eq_getElem mB]
      have h1:=(cI _ hm).1;refine ⟨by omega,?_⟩;show (if hs.getD i 0 < H.length then env (hs.getD i 0) else _)=fp i;rw [if_pos h1,z6 i mB]
     ·refine ⟨by omega,?_⟩;show (if H.length+(i - hs.length) < H.length then _ else fp (H.length+(i - hs.length) - H.length+hs.length))=fp i;rw [if_neg (by omega)];congr 1;omega
    have hcr:∀c v,bZ fp (hs.length+news.length) c v→bZ aK (H.length+news.length) (c.gp fun i=>if i < hs.length then hs.getD i 0 else H.length+(i - hs.length)) v:=fun c v hc=>jC (fun k _ hk=>Ue k hk) hc;refine ⟨v,rfl,aK,yj.but _,by simp,?_,?_,gR.Vw Xs.below Xs.drawn fun k _ hk=>hM k hk⟩
    ·simp only [List.length_append,List.length_map];exact iH hcr hv
    ·have G':=G.below Xs.below (Nat.le_refl _)
     have yE:∀j o,news[j]? =some o→bH fp (hs.length+news.length) (fp (hs.length+j)) w' (gT w) o∧aK (H.length+j)=fp (hs.length+j):=fun j o hj=>by
      have:=hg2.obj (hs.length+j) o (by rw [List.getElem?_append_right (by rw [hlen];omega),hlen,Nat.add_sub_cancel_left];exact hj);rw [List.length_append,hlen] at this;refine ⟨this,?_⟩;show (if H.length+j < H.length then _ else fp (H.length+j - H.length+hs.length))=_;rw [if_neg (by omega)];congr 1;omega
     have aL:∀k a,(H++news.map (av.aX (Cell.gp fun i=>if i < hs.length then hs.getD i 0 else H.length+(i - hs.length))))[k]? =some a→
      (k < H.length∧H[k]? =some a)∨(∃j o,k=H.length+j∧news[j]? =some o∧a=o.aX (Cell.gp fun i=>if i < hs.length then hs.getD i 0 else H.length+(i - hs.length))):=by
      intro k a hk;rcases Nat.lt_or_ge k H.length with hl | hl
      ·rw [List.getElem?_append_left hl] at hk;exact .inl ⟨hl,hk⟩
      ·rw [List.getElem?_append_right hl,List.getElem?_map] at hk;obtain ⟨o,ho,rfl⟩:=Option.map_eq_some_iff.1 hk;exact .inr ⟨k - H.length,o,by omega,ho,rfl⟩
     refine ⟨fun k a hk=>?_,fun k k' a a' b bP hk tE uS hb eG=>?_,G'.sr⟩
     ·rw [List.length_append,List.length_map];rcases aL k a hk with ⟨hl,h1⟩ | ⟨j,o,rfl,hj,rfl⟩
      ·rw [yj k hl];exact fZ (by omega) yj (G'.obj k a h1)
      ·obtain ⟨h1,h2⟩:=yE j o hj;rw [h2];exact iz hM (dx hcr h1)
     ·rcases aL k a hk with ⟨hl,h1⟩ | ⟨j,o,rfl,hj,rfl⟩<;>rcases aL k' a' tE with ⟨gP,jj⟩ | ⟨j',o',rfl,EX,rfl⟩
      ·rw [yj k hl] at hb;rw [yj k' gP] at eG;exact G.sep k k' a a' b bP h1 jj uS hb eG
      ·rw [yj k hl] at hb;obtain ⟨g1,g2⟩:=yE j' o' EX;rw [g2,cu] at eG;have:=bi (G.obj k a h1) hb;have Pt:w.heap.size≤b:=cR g1 (List.all_eq_true.1 Ns o' (List.mem_of_getElem? EX)) eG;omega
      ·rw [yj k' gP] at eG;obtain ⟨g1,g2⟩:=yE j o hj;rw [g2,cu] at hb;have:=bi (G.obj k' a' jj) eG;have Pt:w.heap.size≤b:=cR g1 (List.all_eq_true.1 Ns o (List.mem_of_getElem? hj)) hb;omega
      ·obtain ⟨g1,g2⟩:=yE j o hj;obtain ⟨Pn,Ro⟩:=yE j' o' EX;rw [g2,cu] at hb;rw [Ro,cu] at eG;have ne:hs.length+j≠hs.length+j':=by omega
       refine hg2.sep (hs.length+j) (hs.length+j') o o' b ne ?_ ?_ (by rw [fT] at uS;exact uS) hb eG
       ·rw [List.getElem?_append_right (by rw [hlen];omega),hlen,Nat.add_sub_cancel_left];exact hj
       ·rw [List.getElem?_append_right (by rw [hlen];omega),hlen,Nat.add_sub_cancel_left];exact EX
   ·exact h.elim
  ·exact h.elim
theorem gy:∀(l acc:List Nat),acc.Nodup→(dh acc l).Nodup
 | [],acc,h=>h
 | a::l,acc,h=>by
   unfold dh;split
   ·exact gy l acc h
   ·rename_i hc;refine gy l _ ?_;rw [List.nodup_append];refine ⟨h,by simp,fun x hx y hy=>?_⟩;simp at hy;subst hy;rintro rfl;exact hc (by simpa using hx)
theorem nK (H:Heap cod):∀(d:Nat) (l:List Nat),l.Nodup→(reach H d l).Nodup
 | 0,_,h=>h
 | d+1,l,h=>by
   unfold reach;exact nK H d _ (gy _ _ h)
theorem bD {H:Heap cod} {h:Nat} (hl:h < H.length):H[h]? =some (getObj H h):=by
 unfold getObj;simp [List.getD,List.getElem?_eq_getElem hl]
theorem cK {H:Heap cod} {h:Nat} {o:av cod} (ho:H[h]? =some o):getObj H h=o:=by
 unfold getObj;simp [List.getD,ho]
theorem FC {H:Heap cod} {w:World} {M:Nat→Prop} {g:FuncId} {kp:Bool} {s:aH cod} (hS:dz P cod g kp s) {args:List SV} {vs:List Value} {out:Out cod} (h:(uI H kp s args).ah out) (G:Good env H w M) (hM:∀k,w.heap.size≤k→M k)
 (ha:F2 (aS env H.length) args vs):(∀as w,(callFunc g as).run P w= .ok (.enter g as) w)∧Calls P g vs.toArray w fun e w'=>∃v,e= .returned v∧fw env H w M out v w':=by
 unfold uI at h;obtain ⟨pY,yg⟩:=hS;refine ⟨pY,?_⟩;simp only at h;have hnd:(reach H 3 (dh [] (args.flatMap SV.hs))).Nodup:=nK H 3 _ (gy _ _ (by simp));generalize reach H 3 (dh [] (args.flatMap SV.hs))=hs at h hnd;split at h
 ·rename_i hc;obtain ⟨vA,kU⟩:=hc;rw [T.aw] at h;obtain ⟨⟨r,H'⟩,hr,h⟩:=h;simp only at h;split at h
  ·rename_i Ns;obtain ⟨ai7,ae7,akK,Gn⟩:=Ns;rw [T.ad] at h;subst h;have oo:∀k∈args.flatMap SV.hs,k∈hs:=fun k hk=>by simpa using List.all_eq_true.1 vA k hk
   have cI:∀k∈hs,k < H.length∧∀q∈(getObj H k).hs,q∈hs:=fun k hk=>by
    have:=List.all_eq_true.1 kU k hk;simp only [Bool.and_eq_true,decide_eq_true_eq] at this;exact ⟨this.1,fun q hq=>by simpa using List.all_eq_true.1 this.2 q hq⟩
   let oP:Env:=fun i=>env (hs.getD i 0)
   have acx:∀k,k∈hs→hs.idxOf k < hs.length∧hs.getD (hs.idxOf k) 0=k:=fun k hk=>by
    have h1:=List.idxOf_lt_length_of_mem hk;exact ⟨h1,by simp [List.getD,List.getElem?_eq_getElem h1]⟩
   have Kg:∀i,i < hs.length→hs.getD i 0∈hs∧hs.idxOf (hs.getD i 0)=i:=fun i hi=>by
    have e:hs.getD i 0=hs[i]:=by simp [List.getD,List.getElem?_eq_getElem hi]
    rw [e];exact ⟨List.getElem_mem hi,hnd.idxOf_getElem i hi⟩
   have hρ:∀k,k∈hs→hs.idxOf k < hs.length∧oP (hs.idxOf k)=env k:=fun k hk=>by
    obtain ⟨h1,h2⟩:=acx k hk;exact ⟨h1,by show env (hs.getD (hs.idxOf k) 0)=env k;rw [h2]⟩
   generalize hH1:(hs.map fun h=>(getObj H h).aX (Cell.gp fun h=>hs.idxOf h))=H1 at hr;have hlen:H1.length=hs.length:=by rw [←hH1];exact List.length_map ..
   have Ui:∀i,i < hs.length→H1[i]? =some ((getObj H (hs.getD i 0)).aX (Cell.gp fun h=>hs.idxOf h)):=fun i hi=>by
    rw [←hH1,List.getElem?_map];simp [List.getD,List.getElem?_eq_getElem hi]
   have Nj:∀i o,H1[i]? =some o→i < hs.length∧o=(getObj H (hs.getD i 0)).aX (Cell.gp fun h=>hs.idxOf h):=fun i o ho=>by
    have hi:i < H1.length:=(List.getElem?_eq_some_iff.1 ho).1;rw [hlen] at hi;rw [Ui i hi] at ho;exact ⟨hi,(Option.some.inj ho).symm⟩
   have aJ:F2 (aS oP H1.length) (args.map (SV.aX (Cell.gp fun h=>hs.idxOf h))) vs:=by
    rw [hlen]
    have:∀{l:List SV} {us:List Value},(∀x∈l,x∈args)→F2 (aS env H.length) l us→F2 (aS oP hs.length) (l.map (SV.aX (Cell.gp fun h=>hs.idxOf h))) us:=by
     intro l us hl hf
     induction hf with
     | nil=>exact .nil
     | @cons a b l0 m Nf _ ih=>
       refine .cons (lE (fun c pX v hv=>jC (fun k hk _=>?_) hv) Nf) (ih fun x hx=>hl x (List.mem_cons_of_mem _ hx));exact hρ k (oo k (List.mem_flatMap.2 ⟨a,hl a (List.mem_cons_self ..),pX k hk⟩))
    exact this (fun _ h=>h) ha
   have aaV:∀b,dG H1 oP w b→w.heap.size≤b∨∃k,k∈hs∧(getObj H k).wr=true∧(getObj H k).has (env k) b:=by
    rintro b (hb | ⟨i,o,ho,hw,hb⟩)
    ·exact .inl hb
    ·obtain ⟨hi,rfl⟩:=Nj i o ho;rw [cu] at hb;rw [fT] at hw;exact .inr ⟨_,(Kg i hi).1,hw,hb⟩
   have DA:∀b,dG H1 oP w b→M b:=fun b hb=>by
    rcases aaV b hb with hb | ⟨k,hk,hw,hb⟩
    ·exact hM b hb
    ·exact cR (G.obj k _ (bD (cI k hk).1)) hw hb
   have Uj:Good oP H1 w (dG H1 oP w):=by
    refine ⟨fun i o ho=>?_,fun i i' o o' b bP ho jS hw hb eG=>?_,G.sr.bG (fun _ _ _ _=>rfl) fun p _ _ hn hm=>hn (DA _ hm)⟩
    ·obtain ⟨hi,rfl⟩:=Nj i o ho;obtain ⟨hkm,_⟩:=Kg i hi;obtain ⟨fx,J5⟩:=cI _ hkm;rw [hlen];refine p7 (M:=M) (fun hw b hb=>Or.inr ⟨i,_,ho,hw,hb⟩) ?_;exact nG (fun c hc v hv=>jC (fun q hq _=>hρ q (J5 q (hc q hq))) hv) (G.obj _ _ (bD fx))
    ·obtain ⟨hi,rfl⟩:=Nj i o ho;obtain ⟨Ul,rfl⟩:=Nj i' o' jS;rw [cu] at hb eG;rw [fT] at hw;have hk1:=(cI _ (Kg i hi).1).1;have hk2:=(cI _ (Kg i' Ul).1).1;refine G.sep _ _ _ _ b (fun e=>bP ?_) (bD hk1) (bD hk2) hw hb eG;rw [←(Kg i hi).2,←(Kg i' Ul).2,e]
   refine (yg _ _ oP w vs r H' Uj aJ hr).mono ?_;rintro e w' ⟨v,fp,rfl,YX,hv,kV,Uu,gY⟩
   have aeY:∀i,i < hs.length→(getObj H (hs.getD i 0)).wr=true→Live H1 i:=fun i hi hw _=>by
    rw [cK (Ui i hi),fT];exact hw
   have acD:∀i,hs.length≤i→Live H1 i:=fun i hi hl=>by rw [hlen] at hl;omega
   let aK:Env:=fun k=>if k < H.length then (if k∈hs then fp (hs.idxOf k) else env k) else fp (k - H.length+hs.length)
   have he1:∀k,k∈hs→aK k=fp (hs.idxOf k):=fun k hk=>by
    show (if k < H.length then (if k∈hs then fp (hs.idxOf k) else env k) else _)=_;rw [if_pos (cI k hk).1,if_pos hk]
   have he2:∀k,k < H.length→k∉hs.filter (fun h=>!kp&&(getObj H h).bQ)→aK k=env k:=fun k hk hn=>by
    show (if k < H.length then (if k∈hs then fp (hs.idxOf k) else env k) else _)=_;rw [if_pos hk];split
    ·rename_i hm
     have h0:kp=true∨(getObj H k).bQ=false:=by
      cases ho:(getObj H k).bQ with
      | false=>exact .inr rfl
      | true=>
        cases hkp:kp with
        | true=>exact .inl rfl
        | false=>exact absurd (List.mem_filter.2 ⟨hm,by rw [ho,hkp];rfl⟩) hn
     obtain ⟨g1,g2⟩:=acx k hm;have:=YX (hs.idxOf k) (by rw [hlen];exact g1) (by rw [cK (Ui _ g1),j7,g2];exact h0);rw [this];exact (hρ k hm).2
    ·rfl
   have he3:∀j,aK (H.length+j)=fp (hs.length+j):=fun j=>by
    show (if H.length+j < H.length then _ else fp (H.length+j - H.length+hs.length))=_;rw [if_neg (by omega)];congr 1;omega
   have mz:kf H.length (hs.filter fun h=>!kp&&(getObj H h).bQ) env aK:=he2;generalize J4:(fun i=>if i < hs.length then hs.getD i 0 else H.length+(i - hs.length))=back
   have Ue:∀i,i < H'.length→back i < H.length+(H'.length - hs.length)∧aK (back i)=fp i:=fun i hi=>by
    rw [←J4];simp only;split
    ·rename_i mB;obtain ⟨h1,h2⟩:=Kg i mB;exact ⟨by have:=(cI _ h1).1;omega,by rw [he1 _ h1,h2]⟩
    ·exact ⟨by omega,by rw [he3];congr 1;omega⟩
   have hcr:∀c v,bZ fp H'.length c v→bZ aK (H.length+(H'.length - hs.length)) (c.gp back) v:=fun c v hc=>jC (fun k _ hk=>Ue k hk) hc;have ai9:∀k,k∈hs→(fun h=>if hs.contains h&&(getObj H h).wr then (getObj H' (hs.idxOf h)).aX (Cell.gp back) else (getObj H h).aX (Cell.bR (hs.filter fun h=>!kp&&(getObj H h).bQ))) k=if (getObj H k).wr then (getObj H' (hs.idxOf k)).aX (Cell.gp back) else (getObj H k).aX (Cell.bR (hs.filter fun h=>!kp&&(getObj H h).bQ)):=fun k hk=>by simp [hk]
   have aL:∀k a,(((List.range H.length).map fun h=>if hs.contains h&&(getObj H h).wr then (getObj H' (hs.idxOf h)).aX (Cell.gp back) else (getObj H h).aX (Cell.bR (hs.filter fun h=>!kp&&(getObj H h).bQ)))++(H'.drop hs.length).map (av.aX (Cell.gp back)))[k]? =some a→
    (∃i o,H'[i]? =some o∧a=o.aX (Cell.gp back)∧aK k=fp i∧Live H1 i∧o.wr=true∧k=back i)∨(k < H.length∧a=(getObj H k).aX (Cell.bR (hs.filter fun h=>!kp&&(getObj H h).bQ))∧aK k=env k∧∀b,(getObj H k).has (env k) b→¬dG H1 oP w b):=by
    intro k a hk;rcases Nat.lt_or_ge k H.length with hl | hl
    ·rw [List.getElem?_append_left (by simpa using hl),List.getElem?_map,List.getElem?_range hl] at hk;simp only [Option.map_some,Option.some.injEq] at hk;by_cases hm:k∈hs∧(getObj H k).wr=true
     ·obtain ⟨hm,hw⟩:=hm;have hc:(hs.contains k&&(getObj H k).wr)=true:=by simp [hm,hw]
      rw [if_pos hc] at hk;obtain ⟨g1,g2⟩:=acx k hm;have hi:hs.idxOf k < H'.length:=by omega
      have hkd:=List.all_eq_true.1 Gn (hs.idxOf k) (List.mem_range.2 g1);simp only [Bool.and_eq_true,beq_iff_eq] at hkd;refine .inl ⟨hs.idxOf k,_,bD hi,hk.symm,he1 k hm,aeY _ g1 (by rw [g2];exact hw),by rw [hkd.1,g2];exact hw,?_⟩;rw [←J4];simp only [if_pos g1,g2]
     ·have hc:¬(hs.contains k&&(getObj H k).wr)=true:=by simpa using hm
      rw [if_neg hc] at hk;refine .inr ⟨hl,hk.symm,he2 k hl fun hf=>?_,fun b hb hmn=>?_⟩
      ·obtain ⟨h1,h2⟩:=List.mem_filter.1 hf;refine hm ⟨h1,?_⟩;simp only [Bool.and_eq_true] at h2;replace h2:=h2.2;cases ho:getObj H k<;>rw [ho] at h2<;>first | rfl | (simp [av.bQ] at h2)
      ·have hbl:=bi (G.obj k _ (bD hl)) hb;rcases aaV b hmn with Pt | ⟨k',tE,hw',eG⟩
       ·omega
       ·refine G.sep k' k _ _ b (fun e=>hm ?_) (bD (cI k' tE).1) (bD hl) hw' eG hb;subst e;exact ⟨tE,hw'⟩
    ·rw [List.getElem?_append_right (by simpa using hl),List.getElem?_map,List.getElem?_drop] at hk;obtain ⟨o,ho,rfl⟩:=Option.map_eq_some_iff.1 hk;simp only [List.length_map,List.length_range] at ho;refine .inl ⟨_,o,ho,rfl,?_,acD _ (by omega),?_,?_⟩
     ·have:=he3 (k - H.length);rw [show H.length+(k - H.length)=k by omega] at this;exact this
     ·exact List.all_eq_true.1 ae7 o (List.mem_of_getElem? (i:=k - H.length) (by rw [List.getElem?_drop];exact ho))
     ·rw [←J4];simp only;rw [if_neg (by omega)];omega
   refine ⟨v,rfl,aK,mz,by simp,?_,⟨fun k a hk=>?_,fun k k' a a' b bP hk tE uS hb eG=>?_,G.sr.bG (fun p _ hl hn=>gY.block p.1 hl fun hm=>hn (DA _ hm)) fun _ _ _ h=>h⟩,gY.mono fun k _ hk=>DA k hk⟩
   ·simp only [List.length_append,List.length_map,List.length_range,List.length_drop];exact iH hcr hv
   ·simp only [List.length_append,List.length_map,List.length_range,List.length_drop];rcases aL k a hk with ⟨i,o,ho,rfl,he,hL,_,_⟩ | ⟨hl,rfl,he,Kf⟩
    ·rw [he];exact iz DA (dx hcr (kV i o ho hL))
    ·rw [he];refine dx (fun c v hc=>eV (by omega) mz hc) (ff (G.obj k _ (bD hl)) gY.size fun b hb=>gY.block b (bi (G.obj k _ (bD hl)) hb) (Kf b hb))
   ·rcases aL k a hk with ⟨i,o,ho,rfl,he,hL,Ry,hbk⟩ | ⟨hl,rfl,he,Kf⟩<;>rcases aL k' a' tE with ⟨i',o',jS,rfl,yj,hL',aii,ahr⟩ | ⟨gP,rfl,yj,ahU⟩
    ·rw [he,cu] at hb;rw [yj,cu] at eG;refine Uu i i' o o' b (fun e=>bP ?_) ho jS hL hL' Ry hb eG;rw [hbk,ahr,e]
    ·rw [he,cu] at hb;rw [yj,cu] at eG;exact ahU b eG (cR (kV i o ho hL) Ry hb)
    ·rw [he,cu] at hb;rw [yj,cu] at eG;exact Kf b hb (cR (kV i' o' jS hL') aii eG)
    ·rw [he,cu] at hb;rw [yj,cu] at eG;rw [fT] at uS;exact G.sep k k' _ _ b bP (bD hl) (bD gP) uS hb eG
  ·exact h.elim
 ·exact h.elim
theorem Jq (cfg:aT cod) (hS:kB cfg) {H:Heap cod} {w:World} {M:Nat→Prop} {g:FuncId} {args:List SV} {vs:List Value} {out:Out cod} (h:(mh cfg H g args).ah out) (G:Good env H w M) (hM:∀k,w.heap.size≤k→M k)
 (ha:F2 (aS env H.length) args vs):(∀as w,(callFunc g as).run cfg.P w= .ok (.enter g as) w)∧Calls cfg.P g vs.toArray w fun e w'=>∃v,e= .returned v∧fw env H w M out v w':=by
 unfold mh at h;split at h
 ·rename_i s hs;exact FD cfg (hS.1 g s hs) h G hM ha
 ·split at h
  ·rename_i s hs;exact FC (hS.2 g s hs) h G hM ha
  ·exact h.elim
end
end Sym
end Go.Proofs.YtcjagpfbhnmggaaGreatDoor
