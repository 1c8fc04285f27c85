/- Parts of the proof. -/
import Derived.Test.YtcjagpfbhnmggaaGreatDoorBd11
namespace Go.Proofs.YtcjagpfbhnmggaaGreatDoor
namespace Sym
open Go.RowKit
section
variable {cod:Nat→aO}
def aZ (cfg:aT cod) (ops:Array Oper) (o:Oper) (st bg:St cod):Prop:=
 match o.guard with
 | none=>(mv cfg o st).ah bg
 | some (j,want)=>
   match fC ops st j with
   | .c (.bool b)=>if (b==want)=true then (mv cfg o st).ah bg else bg=zl o st
   | .c (.raw (.tuple ⟨[]⟩))=>bg=zl o st
   | _=>False
def gx (cfg:aT cod) (ops:Array Oper):List Oper→St cod→St cod→Prop
 | [],st,bg=>bg=st
 | o::l,st,bg=>∃s,aZ cfg ops o st s∧gx cfg ops l s bg
theorem ot {st:St cod} {d:Option Nat} {b:Bool} (h:∀t,d=some t→st.tmps.getD t (.c .eJ)= .c (.bool b)):st.ry d b=st:=by
 cases d with
 | none=>rfl
 | some t=>
   have hg:=h t rfl;unfold St.ry;simp only
   have:st.tmps.set t (.c (.bool b))=st.tmps:=by
    apply List.ext_getElem?;intro i;by_cases e:t=i
    ·subst e;rcases Nat.lt_or_ge t st.tmps.length with hl | hl
     ·rw [List.getElem?_set_self hl,List.getElem?_eq_getElem hl];simp only [List.getD,List.getElem?_eq_getElem hl,Option.getD_some] at hg;rw [hg]
     ·rw [List.getElem?_eq_none (by simpa using hl),List.getElem?_eq_none hl]
    ·rw [List.getElem?_set_ne e]
   rw [this]
theorem zL {R:Type} {cfg:aT cod} {o:Oper} {st:St cod} {next:St cod→T R} {r:R} (h:(Cg cfg o st next).ah r):∃bg,(mv cfg o st).ah bg∧(next bg).ah r:=by
 unfold Cg at h;split at h
 ·rename_i c a b ho;split at h
  ·rename_i q hq
   have hs:∀v:SV,(if q then cD st.tmps a else cD st.tmps b)=v→(mv cfg o st).ah (st.put o.dst {v:=v,H:=st.heap}):=by
    intro v hv;unfold mv;rw [T.aw];refine ⟨{v:=v,H:=st.heap},?_,rfl⟩;rw [dQ (.inl (by unfold b7;rw [ho]))];unfold iB;simp only [ho,hq];rw [T.fY];cases q<;>simp_all [T.ad]
   cases q with
   | true=>
     simp only [cond_true] at h;rw [ot (fun t ht=>by cases c<;>simp only [vt] at ht<;>first | (cases ht;done) | (simp only [Option.some.injEq] at ht;subst ht;exact hq))] at h
     exact ⟨_,hs _ rfl,h⟩
   | false=>
     simp only [cond_false] at h;rw [ot (fun t ht=>by cases c<;>simp only [vt] at ht<;>first | (cases ht;done) | (simp only [Option.some.injEq] at ht;subst ht;exact hq))] at h;exact ⟨_,hs _ rfl,h⟩
  ·exact h.elim
 ·rw [T.aw] at h;exact h
theorem fh {R:Type} {cfg:aT cod} {ops:Array Oper}:∀(l:List Oper) (st:St cod) (k:St cod→T R) (r:R),(ij cfg ops l st k).ah r→∃bg,gx cfg ops l st bg∧(k bg).ah r
 | [],st,k,r,h=>⟨st,rfl,h⟩
 | o::l,st,k,r,h=>by
   unfold ij at h;split at h
   ·rename_i hg;obtain ⟨s,h1,h2⟩:=zL h;obtain ⟨bg,h3,h4⟩:=fh l s k r h2;exact ⟨bg,⟨s,by unfold aZ;rw [hg];exact h1,h3⟩,h4⟩
   ·rename_i j want hg;split at h
    ·rename_i b hy
     have hk:st.ry ((ops[j]?).bind (·.dst)) b=st:=ot fun t ht=>by
      unfold fC at hy;rw [ht] at hy;exact hy
     have key:∀q:Bool,q=b→(cond (q==want) (Cg cfg o (st.ry ((ops[j]?).bind (·.dst)) q) fun s=>ij cfg ops l s k) (ij cfg ops l (zl o (st.ry ((ops[j]?).bind (·.dst)) q)) k)).ah r→∃bg,gx cfg ops (o::l) st bg∧(k bg).ah r:=by
      intro q hq hh;subst hq;rw [hk] at hh
      cases hw:(q==want) with
      | true=>
        rw [hw,cond_true] at hh;obtain ⟨s,h1,h2⟩:=zL hh;obtain ⟨bg,h3,h4⟩:=fh l s k r h2;refine ⟨bg,⟨s,?_,h3⟩,h4⟩;unfold aZ;simp only [hg,hy,hw,if_true]
        exact h1
      | false=>
        rw [hw,cond_false] at hh;obtain ⟨bg,h3,h4⟩:=fh l _ k r hh;refine ⟨bg,⟨_,?_,h3⟩,h4⟩;unfold aZ;simp only [hg,hy,hw,Bool.false_eq_true,if_false]
     cases b with
     | true=>exact key true rfl h
     | false=>exact key false rfl h
    ·rename_i hy;obtain ⟨bg,h3,h4⟩:=fh l _ k r h;refine ⟨bg,⟨_,?_,h3⟩,h4⟩;unfold aZ;simp only [hg,hy]
    ·exact h.elim
structure aC where
 w:World
 n:Nat
 env:Env
 Ar:Nat→Prop
 own:Nat→Prop
 new:∀k,w.heap.size≤k→Ar k
def Kept (b:aC) (H:Heap cod) (env:Env):Prop:=(∀h,h < b.n→¬b.own h→env h=b.env h)∧b.n≤H.length∧∀h o,h < b.n→H[h]? =some o→o.bQ=true→b.own h
def Rel (st:St cod) (w0:aC) (a:Act) (w:World):Prop:=
 ∃env,F2 (aS env st.heap.length) st.tmps a.tmps.toList∧a.defers=[]∧Good env st.heap w w0.Ar∧gR w0.Ar w0.w w∧Kept w0 st.heap env
theorem xY {env:Env} {N:Nat} {tm:List SV} {a:Act} (h:F2 (aS env N) tm a.tmps.toList) (x:Operand):aS env N (cD tm x) (a.eval x):=by
 cases x with
 | tmp t=>
   have:=Dk (R:=aS env N) (da:=.c .eJ) (db:=undef) trivial h t
   simpa [cD,Act.eval,Array.getD_eq_getD_getElem?,List.getD] using this
 | const v=>exact u5 v
 | global g=>rfl
 | func f=>exact ⟨by simp,rfl⟩
theorem TP {α β:Type} {R S:α→β→Prop}:∀{l:List α} {m:List β},(∀a∈l,∀b,R a b→S a b)→F2 R l m→F2 S l m
 | _,_,_,.nil=>.nil
 | _,_,h,.cons x xs=>.cons (h _ (List.mem_cons_self ..) _ x) (TP (fun a ha=>h a (List.mem_cons_of_mem _ ha)) xs)
theorem jD {α β γ:Type} {R:α→β→Prop} {S:γ→β→Prop} {f:α→γ}:∀{l:List α} {m:List β},(∀a∈l,∀b,R a b→S (f a) b)→F2 R l m→F2 S (l.map f) m
 | _,_,_,.nil=>.nil
 | _,_,h,.cons x xs=>.cons (h _ (List.mem_cons_self ..) _ x) (jD (fun a ha=>h a (List.mem_cons_of_mem _ ha)) xs)
theorem AZ {env aK:Env} {N N':Nat} (hN:N≤N') {c:Cell} {v:Value} (he:∀k∈c.hs,k < N→aK k=env k) (h:bZ env N c v):bZ aK N' c v:=by
 cases c<;>simp only [bZ,Cell.hs] at* <;>try exact h
 case ptr k i o=>exact ⟨by omega,by rw [he k (by simp) h.1];exact h.2⟩
 case ai k i n t=>
  obtain ⟨h1,A,c,h2,h3,h4,h5,h6⟩:=h;exact ⟨by omega,A,c,h2,h3,h4,h5,by rw [he k (by simp) h1];exact h6⟩
 case own k n=>
  obtain ⟨h1,h2,A,c,h3,h4,h5,h6⟩:=h;exact ⟨by omega,by rw [he k (by simp) h1];exact h2,A,c,h3,h4,h5,by rw [he k (by simp) h1];exact h6⟩
 case fn f dC=>
  obtain ⟨h1,rfl⟩:=h;refine ⟨fun c hc=>by have:=h1 c hc;omega,?_⟩;congr 2;exact List.map_congr_left fun c hc=>by rw [he c.1 (List.mem_map.2 ⟨c,hc,rfl⟩) (h1 c hc)]
theorem Rh {env aK:Env} {N N':Nat} (hN:N≤N') {x:SV} {v:Value} (he:∀k∈x.hs,k < N→aK k=env k) (h:aS env N x v):aS aK N' x v:=by
 have:=lE (f:=id) (aK:=aK) (N':=N') (fun c hc v hv=>AZ hN (fun k hk hl=>he k (hc k hk) hl) hv) h
 have e:x.aX id=x:=by
  cases x with
  | c x=>rfl
  | agg cs=>simp [SV.aX]
  | aP vs=>
    simp only [SV.aX,id_eq,SV.aP.injEq];refine (List.map_congr_left fun v _=>?_).trans (List.map_id _);cases v<;>simp
 rwa [e] at this
theorem H9 {env aK:Env} {N N':Nat} (hN:N≤N') {ks:List Nat} {x:SV} {v:Value} (he:∀k∈x.hs,k < N→k∉ks→aK k=env k) (h:aS env N x v):aS aK N' (x.aX (Cell.bR ks)) v:=by
 refine lE (fun c hc v hv=>?_) h;unfold Cell.bR;split
 ·trivial
 ·rename_i hn;refine AZ hN (fun k hk hl=>he k (hc k hk) hl fun hm=>hn (List.any_eq_true.2 ⟨k,hk,by simpa using hm⟩)) hv
theorem D6 {env aK:Env} {st:St cod} {a:Act} {out:Out cod} {v:Value} {d:Option Nat} (hF:F2 (aS env st.heap.length) st.tmps a.tmps.toList) (he:∀v∈st.tmps,∀k∈v.hs,k < st.heap.length→k∉out.kill→aK k=env k) (hN:st.heap.length≤out.H.length)
 (hv:aS aK out.H.length out.v v):F2 (aS aK (st.put d out).heap.length) (st.put d out).tmps (a.put d v).tmps.toList:=by
 have hh:(st.put d out).heap=out.H:=rfl
 have base:F2 (aS aK out.H.length) (match out.kill with | []=>st.tmps | ks=>st.tmps.map (SV.aX (Cell.bR ks))) a.tmps.toList:=by
  cases hk:out.kill with
  | nil=>
    simp only;rw [hk] at he
    exact TP (fun v hv u h=>Rh hN (fun k Rt fx=>he v hv k Rt fx (by simp)) h) hF
  | cons h ks=>
    simp only;rw [hk] at he;exact jD (fun v hv u h'=>H9 hN (fun k Rt fx Kd=>he v hv k Rt fx Kd) h') hF
 rw [hh]
 cases d with
 | none=>exact base
 | some d=>
   have:=xZ hv d base
   cases hk:out.kill with
   | nil=>
     simp only [hk] at this
     simpa [St.put,Act.put,hk] using this
   | cons h ks=>
     simp only [hk] at this;simpa [St.put,Act.put,hk] using this
theorem put_defers (a:Act) (d:Option Nat) (v:Value):(a.put d v).defers=a.defers:=by cases d<;>rfl
theorem zM {cfg:aT cod} (hS:kB cfg) {o:Oper} {st bg:St cod} {w0:aC} {w:World} {a:Act} {K:Act→World→Prop} {Q:Exit→Act→World→Prop} (mq:Fb cfg st.tmps st.heap) (DC:∀k,mR cfg st.heap k→w0.n≤k) (h:(mv cfg o st).ah bg) (hR:Rel st w0 a w)
 (hK:∀a' w',Rel bg w0 a' w'→K a' w'):o.wp cfg.P a w K Q:=by
 unfold mv at h;rw [T.aw] at h;obtain ⟨out,h1,h2⟩:=h;rw [T.ad] at h2;subst h2;obtain ⟨env,hF,hd,G,hb,so,zZ,tC⟩:=hR;have hh:(st.put o.dst out).heap=out.H:=rfl;obtain ⟨r1,r2⟩:=ZC h1 zZ DC tC;refine G7 (Qk cfg hS mq h1 G (fun k hk=>w0.new k (Nat.le_trans hb.size hk)) a.eval (xY hF)) fun v w' ⟨aK,he,hN,hv,G',eG⟩=>hK _ _ ⟨aK,D6 hF (fun v Nr k Rt fx Kd=>he k fx Kd (fun ht=>mq k ht (.inl ⟨v,Nr,Rt⟩))) hN hv,by rw [put_defers];exact hd,?_,hb.trans eG,fun k hk hn=>?_,?_,?_⟩
 ·rw [hh];exact G'
 ·rw [he k (by omega) (fun e=>hn (r2 k e hk)) (fun ht=>by have:=DC k ht;omega)];exact so k hk hn
 ·rw [hh];omega
 ·rw [hh];exact r1
theorem Hw {o:Oper} {st:St cod} {w0:aC} {w:World} {a:Act} (hR:Rel st w0 a w):Rel (zl o st) w0 (a.put o.dst undef) w:=by
 obtain ⟨env,hF,hd,G,hb,hK⟩:=hR;exact ⟨env,D6 (out:={v:=ik,H:=st.heap}) hF (fun _ _ _ _ _ _=>rfl) (Nat.le_refl _) rfl,by rw [put_defers];exact hd,G,hb,hK⟩
theorem Rl {env:Env} {ops:Array Oper} {st:St cod} {a:Act} {j:Nat} (h:F2 (aS env st.heap.length) st.tmps a.tmps.toList):
 (∀b,fC ops st j= .c (.bool b)→yielded ops a.tmps j=some b)∧(fC ops st j= .c (.raw (.tuple ⟨[]⟩))→yielded ops a.tmps j=none):=by
 unfold fC yielded
 cases hd:(ops[j]?).bind (·.dst) with
 | none=>exact ⟨fun b hb=>(by simp [ik] at hb),fun _=>by simp⟩
 | some d=>
   simp only [Option.bind_some];have hl:=cq h;rcases Nat.lt_or_ge d st.tmps.length with cI | Pt
   ·obtain ⟨u,h1,h2⟩:=pW h (List.getElem?_eq_getElem cI);rw [Array.getElem?_toList] at h1;have hg:st.tmps.getD d (.c .eJ)=st.tmps[d]:=by simp [List.getD,List.getElem?_eq_getElem cI]
    rw [hg,h1];refine ⟨fun b hb=>?_,fun hb=>?_⟩
    ·rw [hb] at h2;simp only [aS,fi,bZ] at h2;subst h2;rfl
    ·rw [hb] at h2;simp only [aS,fi,bZ] at h2;subst h2;rfl
   ·have hg:st.tmps.getD d (.c .eJ)= .c .eJ:=by simp [List.getD,List.getElem?_eq_none Pt]
    rw [hg];exact ⟨fun b hb=>(by simp at hb),fun hb=>(by simp at hb)⟩
theorem SQ {cfg:aT cod} (hS:kB cfg) {ops:Array Oper} {o:Oper} {st bg:St cod} {w0:aC} {w:World} {a:Act} {K:Act→World→Prop} {Q:Exit→Act→World→Prop} (mq:Fb cfg st.tmps st.heap) (DC:∀k,mR cfg st.heap k→w0.n≤k) (h:aZ cfg ops o st bg) (hR:Rel st w0 a w)
 (hK:∀a' w',Rel bg w0 a' w'→K a' w'):if Region.wanted o (yielded ops a.tmps) then o.wp cfg.P a w K Q∨(o.asks cfg.P a w∧LetsOut Q) else K (a.put o.dst undef) w:=by
 unfold aZ at h;split at h
 ·rename_i hg;rw [if_pos (by simp [Region.wanted,hg])];exact .inl (zM hS mq DC h hR hK)
 ·rename_i j want hg;have nv:=hR;obtain ⟨env,hF,_⟩:=hR;obtain ⟨y1,y2⟩:=Rl (ops:=ops) (j:=j) hF;split at h
  ·rename_i b hb
   have hw:Region.wanted o (yielded ops a.tmps)=(b==want):=by
    simp only [Region.wanted,hg,y1 b hb];rfl
   rw [hw];split at h
   ·rename_i hbw;rw [if_pos hbw];exact .inl (zM hS mq DC h nv hK)
   ·rename_i hbw;rw [if_neg hbw];subst h;exact hK _ _ (Hw nv)
  ·rename_i hb
   have hw:Region.wanted o (yielded ops a.tmps)=false:=by
    simp only [Region.wanted,hg,y2 hb];rfl
   rw [hw,if_neg (by simp)];subst h;exact hK _ _ (Hw nv)
  ·exact h.elim
theorem yS {cfg:aT cod} (hS:kB cfg) (z7:∀d,cfg.place d=none) {ops:Array Oper} {w0:aC} {Q:Exit→Act→World→Prop}:∀(l:List Oper) (st bg:St cod) (a:Act) (w:World),gx cfg ops l st bg→Rel st w0 a w→
 (∀a' w',Rel bg w0 a' w'→Q .normal a' w')→wpList cfg.P ops Q l a w
 | [],st,bg,a,w,h,hR,hQ=>by
   simp only [gx] at h;subst h
   exact hQ a w hR
 | o::l,st,bg,a,w,h,hR,hQ=>by
   obtain ⟨s,h1,h2⟩:=h;unfold wpList;exact SQ hS (Fb.none z7 _ _) (fun k ⟨⟨d,hd⟩,_⟩=>by rw [z7 d] at hd;cases hd) h1 hR fun a' w' nv=>yS hS z7 l s bg a' w' h2 nv hQ
end
end Sym
end Go.Proofs.YtcjagpfbhnmggaaGreatDoor
