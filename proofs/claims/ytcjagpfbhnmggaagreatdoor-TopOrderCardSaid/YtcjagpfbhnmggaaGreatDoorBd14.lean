/- Parts of the proof. -/
import Derived.Test.YtcjagpfbhnmggaaGreatDoorBd13
namespace Go.Proofs.YtcjagpfbhnmggaaGreatDoor
namespace Sym
open Go.RowKit
section
variable {cod:Nat→aO}
def oO (ops:Array Oper) (i:Nat):Nat→List Bool
 | 0=>[]
 | n+1=>oO ops i n++[match ops[n]? with
   | some o=>o.after.any fun e=>Region.binds .any e&&(e.on==i||(oO ops i n).getD e.on false)
   | none=>false]
def afx (cfg:aT cod) (ops:Array Oper):Bool:=
 (List.range ops.size).all fun i=>(List.range ops.size).all fun j=>decide (j≤i)||
   match ops[i]?,ops[j]? with
   | some oi,some oj=>kq (ca cfg oi) (ca cfg oj)||(oO ops i (j+1)).getD j false
   | _,_=>true
def pv (ops:Array Oper) (listed:Array Bool):Prop:=
 ∀j o,ops[j]? =some o→listed.getD j false=true→∀e∈o.after,Region.binds .any e=true→listed.getD e.on false=true
theorem nj (ops:Array Oper) (i:Nat):∀n,(oO ops i n).length=n
 | 0=>rfl
 | n+1=>by rw [oO,List.length_append,nj ops i n];rfl
theorem xR {ops:Array Oper} {i:Nat} {listed:Array Bool} (hc:pv ops listed) (hi:listed.getD i false=false):∀n j,(oO ops i n).getD j false=true→listed.getD j false=false
 | 0,j,h=>by simp [oO] at h
 | n+1,j,h=>by
   rw [oO] at h;have hlen:=nj ops i n;rcases Nat.lt_trichotomy j n with hj | hj | hj
   ·refine xR hc hi n j ?_;simp only [List.getD] at h ⊢
    rwa [List.getElem?_append_left (by omega)] at h
   ·subst hj;simp only [List.getD] at h;rw [List.getElem?_append_right (by omega),hlen,Nat.sub_self] at h;simp only [List.getElem?_cons_zero,Option.getD_some] at h
    cases ho:ops[j]? with
    | none=>rw [ho] at h;cases h
    | some o=>
      rw [ho] at h;simp only at h;rw [Array.any_eq_true'] at h;obtain ⟨e,he,hb⟩:=h;simp only [Bool.and_eq_true,Bool.or_eq_true,beq_iff_eq] at hb
      cases hl:listed.getD j false with
      | false=>rfl
      | true=>
        have:=hc j o ho hl e he hb.1;rcases hb.2 with h1 | h1
        ·rw [h1,hi] at this;cases this
        ·have:=xR hc hi j e.on h1;simp_all
   ·simp only [List.getD] at h;rw [List.getElem?_eq_none (by rw [List.length_append,hlen];simp;omega)] at h;cases h
theorem Qz {ops:Array Oper} {i j:Nat} {listed:Array Bool} (hc:pv ops listed) (hi:listed.getD i false=false) (hj:j∈Region.ready .any ops listed):(oO ops i (j+1)).getD j false=false:=by
 obtain ⟨_,o,ho,iI⟩:=mem_ready.1 hj
 cases h:(oO ops i (j+1)).getD j false with
 | false=>rfl
 | true=>
   rw [oO] at h;simp only [List.getD] at h;have hlen:=nj ops i j;rw [List.getElem?_append_right (by omega),hlen,Nat.sub_self] at h;simp only [List.getElem?_cons_zero,Option.getD_some,ho] at h;rw [Array.any_eq_true'] at h;obtain ⟨e,he,hb⟩:=h;simp only [Bool.and_eq_true,Bool.or_eq_true,beq_iff_eq] at hb;have h1:=iI e he hb.1;rcases hb.2 with h2 | h2
   ·rw [h2,hi] at h1;cases h1
   ·have:=xR hc hi j e.on h2;rw [this] at h1;cases h1
theorem pT {ops:Array Oper} {listed:Array Bool} {i:Nat} (hc:pv ops listed) (hi:i∈Region.ready .any ops listed):pv ops (listed.setIfInBounds i true):=by
 intro j o ho hl e he hb;obtain ⟨_,oi,hoi,iI⟩:=mem_ready.1 hi;by_cases Rs:i=j
 ·subst Rs;rw [hoi] at ho;cases ho;exact getD_set_true (iI e he hb)
 ·rw [getD_set_ne false Rs] at hl;exact getD_set_true (hc j o ho hl e he hb)
theorem nL {ops:Array Oper} {listed:Array Bool} {i:Nat} (hi:i∈Region.ready .any ops listed):listed.getD i false=false∧i < listed.size:=by
 have h:=(mem_ready.1 hi).1;rcases Nat.lt_or_ge i listed.size with hl | hl
 ·simp only [Array.getD_eq_getD_getElem?,Array.getElem?_eq_getElem hl,Option.getD_some] at h ⊢;exact ⟨h,hl⟩
 ·simp [Array.getElem?_eq_none hl] at h
def AT (cfg:aT cod) (ops:Array Oper) (i:Nat) (st bg:St cod):Prop:=
 match ops[i]? with
 | none=>bg=st
 | some o=>aZ cfg ops o st bg
def mS (cfg:aT cod) (ops:Array Oper) (I Q:St cod→Prop):Nat→Array Bool→St cod→Prop
 | 0,listed,st=>I st∧Region.ready .any ops listed=[]∧Q st
 | n+1,listed,st=>I st∧(Region.ready .any ops listed=[]→Q st)∧∀i∈Region.ready .any ops listed,∃bg,AT cfg ops i st bg∧mS cfg ops I Q n (listed.setIfInBounds i true) bg
theorem Jb {cfg:aT cod} {ops:Array Oper} {I Q:St cod→Prop} {n:Nat} {listed:Array Bool} {st:St cod} (h:mS cfg ops I Q n listed st):I st:=by
 cases n with
 | zero=>exact h.1
 | succ n=>exact h.1
theorem jd {cfg:aT cod} (hS:kB cfg) {ops:Array Oper} {w0:aC} {I Q:St cod→Prop} {Q':Exit→Act→World→Prop} (hI:∀st,I st→Fb cfg st.tmps st.heap∧∀k,mR cfg st.heap k→w0.n≤k) (hQ:∀st a w,Q st→Rel st w0 a w→Q' .normal a w):
 ∀(n:Nat) (listed:Array Bool) (st:St cod) (a:Act) (w:World),mS cfg ops I Q n listed st→Rel st w0 a w→wpAny cfg.P .any ops Q' n listed a w
 | 0,_,st,a,w,h,hR=>⟨h.2.1,hQ st a w h.2.2 hR⟩
 | n+1,listed,st,a,w,h,hR=>by
   refine ⟨fun h0=>hQ st a w (h.2.1 h0) hR,fun i hi=>?_⟩;obtain ⟨bg,h1,h2⟩:=h.2.2 i hi;unfold AT at h1;unfold wpOp
   cases ho:ops[i]? with
   | none=>
     rw [ho] at h1;simp only at h1;subst h1
     exact jd hS hI hQ n _ bg a w h2 hR
   | some o=>
     rw [ho] at h1;exact SQ hS (hI st h.1).1 (hI st h.1).2 h1 hR fun a' w' nv=>jd hS hI hQ n _ bg a' w' h2 nv
theorem qD {cfg:aT cod} {ops:Array Oper} {I Q:St cod→Prop} {i:Nat} {oi:Oper} (hi:ops[i]? =some oi):
 ∀(fuel:Nat) (listed:Array Bool) (st s1:St cod),pv ops listed→
  (∀j oj,ops[j]? =some oj→j≠i→listed.getD j true=false→(∀e∈oj.after,Region.binds .any e=true→e.on≠i)→oi.apart ops oj=true)→
  (∀j oj,ops[j]? =some oj→j≠i→listed.getD j true=false→(oi.apart ops oj=true→∀st s1 s2,I st→aZ cfg ops oi st s1→aZ cfg ops oj s1 s2→∃t1,aZ cfg ops oj st t1∧aZ cfg ops oi t1 s2∧(I s2→I t1))∨(oO ops i (j+1)).getD j false=true)→
  i∈Region.ready .any ops listed→I st→aZ cfg ops oi st s1→mS cfg ops I Q fuel (listed.setIfInBounds i true) s1→mS cfg ops I Q (fuel+1) listed st:=by
 intro fuel
 induction fuel with
 | zero=>
   intro listed st s1 J5 _ _ hr hI hy H;refine ⟨hI,fun h=>(by rw [h] at hr;cases hr),fun j hj=>?_⟩;by_cases Rs:j=i
   ·subst Rs;exact ⟨s1,by unfold AT;rw [hi];exact hy,H⟩
   ·have:=ready_mono hj Rs;rw [H.2.1] at this
    cases this
 | succ fuel ih=>
   intro listed st s1 J5 Uh jR hr hI hy H;refine ⟨hI,fun h=>(by rw [h] at hr;cases hr),fun j hj=>?_⟩;by_cases Rs:j=i
   ·subst Rs;exact ⟨s1,by unfold AT;rw [hi];exact hy,H⟩
   ·obtain ⟨s12,h1,Gp⟩:=H.2.2 j (ready_mono hj Rs);obtain ⟨acz,oj,hoj,iI⟩:=mem_ready.1 hj;have aeO:=nL hr
    have ahW:∀e∈oj.after,Region.binds .any e=true→e.on≠i:=fun e he hb z6=>by
     have h1:=iI e he hb;rw [z6,aeO.1] at h1;cases h1
    have vV:=Uh j oj hoj Rs acz ahW
    have aeG:∀st s1 s2,I st→aZ cfg ops oi st s1→aZ cfg ops oj s1 s2→∃t1,aZ cfg ops oj st t1∧aZ cfg ops oi t1 s2∧(I s2→I t1):=by
     rcases jR j oj hoj Rs acz with h | h
     ·exact h vV
     ·rw [Qz J5 aeO.1 hj] at h;cases h
    unfold AT at h1;rw [hoj] at h1;obtain ⟨t1,k1,k2,k3⟩:=aeG _ _ _ hI hy h1;refine ⟨t1,by unfold AT;rw [hoj];exact k1,?_⟩
    have aa3:∀k,(listed.setIfInBounds j true).getD k true=false→listed.getD k true=false:=fun k Nq=>by
     by_cases hjk:j=k
     ·subst hjk;exact acz
     ·rw [getD_set_ne true hjk] at Nq;exact Nq
    refine ih (listed.setIfInBounds j true) t1 s12 (pT J5 hj) (fun k ok hk hki Nq hno=>Uh k ok hk hki (aa3 k Nq) hno) (fun k ok hk hki Nq=>jR k ok hk hki (aa3 k Nq)) (ready_mono hr (Ne.symm Rs)) (k3 (Jb Gp)) k2 ?_;rw [Array.setIfInBounds_comm _ _ Rs];exact Gp
def n9 (cfg:aT cod) (ops:Array Oper) (I:St cod→Prop):List Oper→St cod→St cod→Prop
 | [],st,bg=>I st∧bg=st
 | o::l,st,bg=>I st∧∃s,aZ cfg ops o st s∧n9 cfg ops I l s bg
theorem tU {cfg:aT cod} {ops:Array Oper}:∀{l:List Oper} {st bg:St cod},gx cfg ops l st bg→n9 cfg ops (fun _=>True) l st bg
 | [],_,_,h=>⟨trivial,h⟩
 | _::_,_,_,⟨s,h1,h2⟩=>⟨trivial,s,h1,tU h2⟩
def F3 (l:List Oper):List Nat:=l.filterMap (·.dst)
theorem Bq {cfg:aT cod} {ops:Array Oper} {o:Oper} {st:St cod} {out:Out cod} (hk:ca cfg o≤3) (h:qn cfg ops o st out):out.kill=[]:=(rf h).1 hk
theorem xU {cfg:aT cod} {ops:Array Oper} {o:Oper} {st:St cod} {out:Out cod} (hk:vI cfg o=true) (h:qn cfg ops o st out):out.kill=[]:=by
 unfold qn at h;split at h
 ·exact Ci hk h
 ·split at h
  ·split at h
   ·exact Ci hk h
   ·rw [h]
  ·rw [h]
  ·exact h.elim
theorem Hj {cfg:aT cod} {ops:Array Oper}:∀{l:List Oper} {st bg:St cod},gx cfg ops l st bg→(∀o∈l,vI cfg o=true)→∀t,t∉F3 l→bg.tmps.getD t (.c .eJ)=st.tmps.getD t (.c .eJ)
 | [],_,_,h,_,_,_=>by
   simp only [gx] at h
   rw [h]
 | o::l,st,bg,⟨s,h1,h2⟩,hk,t,ht=>by
   have hl:t∉F3 l:=fun h=>ht (by
    unfold F3 at*;rw [List.filterMap_cons];split
    ·exact h
    ·exact List.mem_cons_of_mem _ h)
   rw [Hj h2 (fun x hx=>hk x (List.mem_cons_of_mem _ hx)) t hl];obtain ⟨out,e,rfl⟩:=cX.1 h1;rw [bW (xU (hk o (List.mem_cons_self ..)) e)]
   cases hd:o.dst with
   | none=>rfl
   | some d=>
     have:d≠t:=fun e=>ht (by
      subst e;unfold F3;rw [List.filterMap_cons,hd];exact List.mem_cons_self ..)
     simp only [List.getD];rw [List.getElem?_set_ne this]
theorem yR {cfg:aT cod} {ops:Array Oper} {a:List SV}:∀{l:List Oper} {st bg:St cod},gx cfg ops l st bg→(∀o∈l,vI cfg o=true)→(F3 l).Nodup→z8 a bg.tmps st.tmps→n9 cfg ops (fun s=>z8 a bg.tmps s.tmps) l st bg
 | [],_,_,h,_,_,hB=>⟨hB,h⟩
 | o::l,st,bg,⟨s,h1,h2⟩,hk,hn,hB=>by
   have tE:∀x∈l,vI cfg x=true:=fun x hx=>hk x (List.mem_cons_of_mem _ hx);refine ⟨hB,s,h1,yR h2 tE ?_ ?_⟩
   ·unfold F3 at hn ⊢;rw [List.filterMap_cons] at hn;split at hn
    ·exact hn
    ·exact (List.nodup_cons.1 hn).2
   ·intro t;obtain ⟨out,e,rfl⟩:=cX.1 h1;have hr:=Hj h2 tE t;rw [bW (xU (hk o (List.mem_cons_self ..)) e)] at hr ⊢
    cases hd:o.dst with
    | none=>exact hB t
    | some d=>
      simp only [hd] at hr ⊢;by_cases hdt:d=t
      ·subst hdt;refine .inr (hr ?_).symm;unfold F3 at hn ⊢;rw [List.filterMap_cons,hd] at hn;exact (List.nodup_cons.1 hn).1
      ·have:=hB t;simp only [List.getD] at this ⊢;rw [List.getElem?_set_ne hdt];exact this
theorem jv {cfg:aT cod} {ops:Array Oper} {I Q:St cod→Prop} (hm:∀i j oi oj,i < j→ops[i]? =some oi→ops[j]? =some oj→(oi.apart ops oj=true→∀st s1 s2,I st→aZ cfg ops oi st s1→aZ cfg ops oj s1 s2→∃t1,aZ cfg ops oj st t1∧aZ cfg ops oi t1 s2∧(I s2→I t1))∨(oO ops i (j+1)).getD j false=true):∀(l:List Oper) (k:Nat) (listed:Array Bool) (st bg:St cod),(∀j,l[j]? =ops[k+j]?)→pv ops listed→(∀j,j < k→listed.getD j true=true)→
 Region.lexFrom .any ops l.length k listed=true→n9 cfg ops I l st bg→Q bg→mS cfg ops I Q l.length listed st
 | [],k,listed,st,bg,hl,_,_,hB,h,hQ=>by
   obtain ⟨hI,h⟩:=h;subst h
   exact ⟨hI,by simpa [Region.lexFrom] using hB,hQ⟩
 | o::l,k,listed,st,bg,hl,J5,YV,hB,h,hQ=>by
   have h0:ops[k]? =some o:=by simpa using (hl 0).symm
   simp only [List.length_cons,Region.lexFrom,Bool.and_eq_true] at hB;obtain ⟨⟨hr,hf⟩,hB'⟩:=hB;obtain ⟨hI,s,h1,h2⟩:=h;have EY:k∈Region.ready .any ops listed:=by simpa using hr
   refine qD h0 l.length listed st s J5 (Region.free_spec h0 hf) (fun j oj hj bP Nq=>?_) EY hI h1 ?_
   ·have hkj:k < j:=by
     rcases Nat.lt_trichotomy j k with hh | hh | hh
     ·rw [YV j hh] at Nq;cases Nq
     ·exact absurd hh bP
     ·exact hh
    exact hm k j o oj hkj h0 hj
   ·refine jv hm l (k+1) _ s bg (fun j=>by have:=hl (j+1);simpa [Nat.add_assoc,Nat.add_comm 1 j] using this) (pT J5 EY) (fun j hj=>?_) hB' h2 hQ;by_cases e:k=j
    ·subst e;have:=(nL EY).2;simp [this]
    ·rw [getD_set_ne true e];exact YV j (by omega)
def GU (cfg:aT cod) (ops:Array Oper) (a b:List SV):Bool:=
 ops.toList.all (fun o=>vI cfg o)&&decide (F3 ops.toList).Nodup&&
 ((List.range ops.size).all fun i=>(List.range ops.size).all fun j=>decide (j≤i)||
   match ops[i]?,ops[j]? with
   | some oi,some oj=>kq (ca cfg oi) (ca cfg oj)||(oO ops i (j+1)).getD j false||Jd cfg a b oi oj
   | _,_=>true)
def xT (cfg:aT cod) (ops:Array Oper) (st bg:St cod):Bool:=Region.lexB .any ops&&(afx cfg ops||GU cfg ops st.tmps bg.tmps)
theorem tf {ops:Array Oper} {p:Nat→Nat→Oper→Oper→Bool} (h:((List.range ops.size).all fun i=>(List.range ops.size).all fun j=>decide (j≤i)||
 match ops[i]?,ops[j]? with
 | some oi,some oj=>p i j oi oj
 | _,_=>true)=true) {i j:Nat} {oi oj:Oper} (Nk:i < j) (hi:ops[i]? =some oi) (hj:ops[j]? =some oj):p i j oi oj=true:=by
 have cI:j < ops.size:=(Array.getElem?_eq_some_iff.1 hj).1;have hlk:i < ops.size:=(Array.getElem?_eq_some_iff.1 hi).1;have:=List.all_eq_true.1 (List.all_eq_true.1 h i (List.mem_range.2 hlk)) j (List.mem_range.2 cI);simp only [hi,hj,Bool.or_eq_true,decide_eq_true_eq] at this;rcases this with h | h
 ·omega
 ·exact h
theorem H0 {cfg:aT cod} {ops:Array Oper} {a b:List SV} {oi oj:Oper} {st s1 s2:St cod} (hB:z8 a b st.tmps) (h1:aZ cfg ops oi st s1) (h2:aZ cfg ops oj s1 s2) (vV:oi.apart ops oj=true) (hc:kq (ca cfg oi) (ca cfg oj)=true):
 ∃t1,aZ cfg ops oj st t1∧aZ cfg ops oi t1 s2∧(z8 a b s2.tmps→z8 a b t1.tmps):=by
 obtain ⟨t1,k1,k2⟩:=qk h1 h2 vV hc;refine ⟨t1,k1,k2,fun hb=>?_⟩;have hki:ca cfg oi≤3:=by unfold kq at hc;simp at hc;omega
 have hkj:ca cfg oj≤3:=by unfold kq at hc;simp at hc;omega
 obtain ⟨tP,e1,rfl⟩:=cX.1 k1;obtain ⟨rF,e2,rfl⟩:=cX.1 k2;obtain ⟨_,a2,_⟩:=Oper.apart_spec vV;have kj:=Bq hkj e1;have ki:=Bq hki e2;rw [bW ki,bW kj] at hb;rw [bW kj];refine MW (di:=oi.dst) (vi:=rF.v) hB a2 ?_
 have aeF:Ht (Ht st.tmps oi.dst rF.v) oj.dst tP.v=Ht (Ht st.tmps oj.dst tP.v) oi.dst rF.v:=by
  cases hdi:oi.dst with
  | none=>rfl
  | some di=>
    cases hdj:oj.dst with
    | none=>rfl
    | some dj=>exact List.set_comm _ _ (fun e=>a2 di hdi (by rw [hdj,e]))
 rw [aeF];exact hb
def gH (ops:List Oper):List (Option Nat):=(ops.filter nB).map (·.dst)
def aT.cP (cfg:aT cod) (N:Nat) (nw:List (Option Nat)):aT cod:={cfg with place:=fun d=>if nw.contains (some d) then some (N+nw.idxOf (some d)) else none}
def St.hold (st:St cod) (n:Nat):St cod:={st with heap:=st.heap++List.replicate n (.aB 0 [])}
def Df (cfg:aT cod) (ops:Array Oper) (st bg:St cod):Bool:=
 ops.toList.all okQ&&(gH ops.toList).all Option.isSome&&Region.lexB .any ops&&GU (cfg.cP st.heap.length (gH ops.toList)) ops st.tmps bg.tmps
theorem BU {cfg:aT cod} {N:Nat} {nw:List (Option Nat)} {d k:Nat} (h:(cfg.cP N nw).place d=some k):N≤k:=by
 unfold aT.cP at h;simp only at h;split at h
 ·cases h;omega
 ·cases h
theorem Hc {cfg:aT cod} {N:Nat} {ops:List Oper} {o:Oper} (ho:o∈ops) (hn:nB o=true) (hd:(gH ops).all Option.isSome=true):(o.dst.bind (cfg.cP N (gH ops)).place).isSome=true:=by
 have hm:o.dst∈gH ops:=List.mem_map.2 ⟨o,List.mem_filter.2 ⟨ho,hn⟩,rfl⟩;obtain ⟨d,hdd⟩:=Option.isSome_iff_exists.1 (List.all_eq_true.1 hd _ hm);rw [hdd] at hm ⊢;simp [aT.cP,hm]
theorem YG {cfg:aT cod} {ops:Array Oper} {o:Oper} {st bg:St cod} (hk:okQ o=true) (Xt:vI cfg o=true) (hp:nB o=true→(o.dst.bind cfg.place).isSome=true) (hF:Fb cfg st.tmps st.heap) (h:aZ cfg ops o st bg):Fb cfg bg.tmps bg.heap∧∀k,mR cfg bg.heap k→mR cfg st.heap k:=by
 obtain ⟨out,e,rfl⟩:=cX.1 h;have aeS:=xU Xt e;rw [bW aeS]
 have main:(∀k∈out.v.hs,iV st.tmps st.heap k∨(getObj out.H k).aV=false)∧(∀ob∈out.H,∀k∈ob.hs,iV st.tmps st.heap k∨(getObj out.H k).aV=false)∧∀k,(getObj out.H k).aV=true→(getObj st.heap k).aV=true:=by
  have skip:out={v:=ik,H:=st.heap}→(∀k∈out.v.hs,iV st.tmps st.heap k∨(getObj out.H k).aV=false)∧(∀ob∈out.H,∀k∈ob.hs,iV st.tmps st.heap k∨(getObj out.H k).aV=false)∧∀k,(getObj out.H k).aV=true→(getObj st.heap k).aV=true:=by
   rintro rfl;exact ⟨(fun k hk=>by cases hk),fun ob dN k hk=>.inl (.inr ⟨ob,dN,hk⟩),fun _ h=>h⟩
  unfold qn at e;split at e
  ·exact G6 hk Xt hp e
  ·split at e
   ·split at e
    ·exact G6 hk Xt hp e
    ·exact skip e
   ·exact skip e
   ·exact e.elim
 obtain ⟨m1,m2,m3⟩:=main;have ht:∀k,mR cfg out.H k→mR cfg st.heap k:=fun k ⟨h1,h2⟩=>⟨h1,m3 k h2⟩;refine ⟨fun k hT hs=>?_,ht⟩;have h0:=hF k (ht k hT);rcases hs with ⟨v,hv,Rt⟩ | ⟨ob,dN,Rt⟩
 ·cases hd:o.dst with
  | none=>
    rw [hd] at hv
    exact h0 (.inl ⟨v,hv,Rt⟩)
  | some d=>
    rw [hd] at hv;rcases List.mem_or_eq_of_mem_set hv with h1 | h1
    ·exact h0 (.inl ⟨v,h1,Rt⟩)
    ·subst h1;rcases m1 k Rt with h2 | h2
     ·exact h0 h2
     ·rw [hT.2] at h2;cases h2
 ·rcases m2 ob dN k Rt with h2 | h2
  ·exact h0 h2
  ·rw [hT.2] at h2;cases h2
theorem yQ {cfg:aT cod} {ops:Array Oper} {I J:St cod→Prop} (hJ:∀o∈ops.toList,∀s s',J s→aZ cfg ops o s s'→J s'):∀{l:List Oper} {st bg:St cod},(∀o∈l,o∈ops.toList)→n9 cfg ops I l st bg→J st→n9 cfg ops (fun s=>I s∧J s) l st bg
 | [],_,_,_,⟨h1,h2⟩,h=>⟨⟨h1,h⟩,h2⟩
 | o::_,_,_,hl,⟨h1,s,h2,h3⟩,h=>⟨⟨h1,h⟩,s,h2,yQ hJ (fun x hx=>hl x (List.mem_cons_of_mem _ hx)) h3 (hJ o (hl o (List.mem_cons_self ..)) _ _ h h2)⟩
theorem Us {st:St cod} {b:aC} {a:Act} {w:World} (n:Nat) (hR:Rel st b a w):Rel (st.hold n) b a w:=by
 obtain ⟨env,hF,hd,G,hb,so,zZ,tC⟩:=hR
 let aK:Env:=fun k=>if k < st.heap.length then env k else ⟨0,0,(cod 0).size,undef,[]⟩
 have he:eH st.heap.length env aK:=fun k hk=>by show (if k < st.heap.length then env k else _)=_;rw [if_pos hk]
 have hlen:(st.hold n).heap.length=st.heap.length+n:=by simp [St.hold]
 have aL:∀k o,(st.hold n).heap[k]? =some o→(k < st.heap.length∧st.heap[k]? =some o)∨(st.heap.length≤k∧o= .aB 0 []):=by
  intro k o ho;simp only [St.hold] at ho;rcases Nat.lt_or_ge k st.heap.length with hl | hl
  ·rw [List.getElem?_append_left hl] at ho;exact .inl ⟨hl,ho⟩
  ·rw [List.getElem?_append_right hl,List.getElem?_replicate] at ho;split at ho
   ·cases ho;exact .inr ⟨hl,rfl⟩
   ·cases ho
 refine ⟨aK,?_,hd,⟨fun k o ho=>?_,fun k k' o o' c bP ho jS hw hc cY=>?_,G.sr⟩,hb,fun k hk hn=>?_,by rw [hlen];omega,fun k o hk ho dS=>?_⟩
 ·rw [hlen];exact ee (fun _ _ h=>oM (by omega) he h) hF
 ·rw [hlen];rcases aL k o ho with ⟨hl,h1⟩ | ⟨hl,rfl⟩
  ·rw [he k hl];exact fZ (by omega) he (G.obj k o h1)
  ·have e:aK k=⟨0,0,(cod 0).size,undef,[]⟩:=by show (if k < st.heap.length then env k else _)=_;rw [if_neg (by omega)]
   rw [e];exact ⟨rfl,(fun j u hu=>by simp [aN] at hu),fun h=>absurd rfl h⟩
 ·rcases aL k o ho with ⟨hl,h1⟩ | ⟨hl,rfl⟩
  ·rcases aL k' o' jS with ⟨gP,jj⟩ | ⟨gP,rfl⟩
   ·rw [he k hl] at hc;rw [he k' gP] at cY;exact G.sep k k' o o' c bP h1 jj hw hc cY
   ·exact cY.1 rfl
  ·cases hw
 ·rw [he k (by omega)];exact so k hk hn
 ·rcases aL k o ho with ⟨hl,h1⟩ | ⟨hl,rfl⟩
  ·exact tC k o hk h1 dS
  ·cases dS
theorem yN {st:St cod} {b:aC} {a:Act} {w:World} (hR:Rel st b a w):Rel st b a w.drew:=
 let ⟨env,hF,hdf,G,hb,hK⟩:=hR
 ⟨env,hF,hdf,G.bG (Nat.le_refl _) (fun _ _=>rfl),hb.drew,hK⟩
theorem QA {st:St cod} {b:aC} {a:Act} {w:World} (hR:Rel st b a w) (hf:st.tmps.all (fun v=>v.hs.all fun h=>decide (h < st.heap.length))=true) (hh:st.heap.all (fun o=>o.hs.all fun h=>decide (h < st.heap.length))=true) (cfg:aT cod) (nw:List (Option Nat)) (n:Nat):
 Fb (cfg.cP st.heap.length nw) (st.hold n).tmps (st.hold n).heap∧∀k,mR (cfg.cP st.heap.length nw) (st.hold n).heap k→b.n≤k:=by
 obtain ⟨_,_,_,_,_,_,zZ,_⟩:=hR;refine ⟨fun k ⟨⟨d,hd⟩,_⟩ hs=>?_,fun k ⟨⟨d,hd⟩,_⟩=>by have:=BU hd;omega⟩;have Pt:=BU hd;rcases hs with ⟨v,hv,hk⟩ | ⟨ob,dN,hk⟩
 ·have:=List.all_eq_true.1 (List.all_eq_true.1 hf v hv) k hk;simp only [decide_eq_true_eq] at this;omega
 ·simp only [St.hold] at dN;rcases List.mem_append.1 dN with h1 | h1
  ·have:=List.all_eq_true.1 (List.all_eq_true.1 hh ob h1) k hk;simp only [decide_eq_true_eq] at this;omega
  ·rw [List.eq_of_mem_replicate h1] at hk;cases hk
theorem Ay {cfg:aT cod} (hS:kB cfg) (hm:cfg.P.follows .mixedOrders=true) {id:Nat} {ops:Array Oper} {st bg:St cod} {w0:aC} {w:World} {a:Act} {Q:Exit→Act→World→Prop} {n:Nat}
 (hf:st.tmps.all (fun v=>v.hs.all fun h=>decide (h < st.heap.length))=true) (hh:st.heap.all (fun o=>o.hs.all fun h=>decide (h < st.heap.length))=true)
 (hd:Df cfg ops st bg=true) (h:gx (cfg.cP st.heap.length (gH ops.toList)) ops ops.toList (st.hold n) bg) (hR:Rel st w0 a w) (hQ:∀a' w',Rel bg w0 a' w'→Q .normal a' w'):(Code.region id ops true).wp cfg.P Q a w:=by
 unfold Df at hd;simp only [Bool.and_eq_true] at hd;obtain ⟨⟨⟨qo,YR⟩,hB⟩,jR⟩:=hd;simp only [Region.lexB,Bool.and_eq_true] at hB;generalize YP:cfg.cP st.heap.length (gH ops.toList)=C8 at*;have hP:C8.P=cfg.P:=by rw [←YP];rfl
 have hS':kB C8:=by rw [←YP];exact hS
 have ahY:∀o∈ops.toList,okQ o=true:=List.all_eq_true.1 qo;have z7:∀o∈ops.toList,nB o=true→(o.dst.bind C8.place).isSome=true:=fun o ho hn=>by rw [←YP];exact Hc ho hn YR
 unfold GU at jR;simp only [Bool.and_eq_true,decide_eq_true_eq] at jR;obtain ⟨⟨hk,hn⟩,hp⟩:=jR;have tE:∀o∈ops.toList,vI C8 o=true:=fun o ho=>List.all_eq_true.1 hk o ho
 have mq:Fb C8 (st.hold n).tmps (st.hold n).heap∧∀k,mR C8 (st.hold n).heap k→w0.n≤k:=by
  rw [←YP];exact QA hR hf hh cfg (gH ops.toList) n
 let J:St cod→Prop:=fun s=>Fb C8 s.tmps s.heap∧∀k,mR C8 s.heap k→w0.n≤k
 have hJ:∀o∈ops.toList,∀s s',J s→aZ C8 ops o s s'→J s':=fun o ho s s' ⟨h1,h2⟩ Gq=>
  let ⟨g1,g2⟩:=YG (ahY o ho) (tE o ho) (z7 o ho) h1 Gq
  ⟨g1,fun k hk=>h2 k (g2 k hk)⟩
 have oo:∀{j:Nat} {o:Oper},ops[j]? =some o→o∈ops.toList:=fun h=>by
  rw [←Array.getElem?_toList] at h;exact List.mem_of_getElem? h
 have cW:=yQ (I:=fun s=>z8 (st.hold n).tmps bg.tmps s.tmps) (J:=J) hJ (fun o ho=>ho) (yR h tE hn (fun _=>.inl rfl)) mq
 have Pr:=jv (Q:=fun s=>s=bg) (fun i j oi oj Nk hi hj=>by
  have:=tf hp Nk hi hj;simp only [Bool.or_eq_true] at this;rcases this with (hc | hc) | hc
  ·refine .inl fun vV s s1 s2 hI k1 k2=>?_;obtain ⟨t1,q1,q2,q3⟩:=H0 hI.1 k1 k2 vV hc;exact ⟨t1,q1,q2,fun h2=>⟨q3 h2.1,hJ oj (oo hj) s t1 hI.2 q1⟩⟩
  ·exact .inr hc
  ·refine .inl fun vV s s1 s2 hI k1 k2=>?_;obtain ⟨t1,q1,q2,q3⟩:=H3 hI.1 k1 k2 vV hc;exact ⟨t1,q1,q2,fun h2=>⟨q3 h2.1,hJ oj (oo hj) s t1 hI.2 q1⟩⟩) ops.toList 0 (Array.replicate ops.size false) (st.hold n) bg (by simp) (fun j o _ hl=>by simp [Array.getElem?_replicate] at hl;split at hl<;>simp_all) (fun j hj=>by omega) (by simpa using hB.2) cW rfl
 have hw:=jd hS' (w0:=w0) (Q':=Q) (fun s hI=>hI.2) (fun s a' w' hs nv=>by subst hs;exact hQ a' w' nv) _ _ (st.hold n) a w.drew Pr (Us n (yN hR));rw [hP] at hw;exact wp_region_any hm (by simpa using hw)
theorem Eb {cfg:aT cod} (hS:kB cfg) (z7:∀d,cfg.place d=none) (hm:cfg.P.follows .mixedOrders=true) {id:Nat} {ops:Array Oper} {draw:Bool} {st bg:St cod} {w0:aC} {w:World} {a:Act} {Q:Exit→Act→World→Prop}
 (hd:draw=true→xT cfg ops st bg=true) (h:gx cfg ops ops.toList st bg) (hR:Rel st w0 a w) (hQ:∀a' w',Rel bg w0 a' w'→Q .normal a' w'):(Code.region id ops draw).wp cfg.P Q a w:=by
 cases draw with
 | false=>exact wp_region_list (yS hS z7 ops.toList st bg a w h hR hQ)
 | true=>
   have hd:=hd rfl;unfold xT at hd;simp only [Bool.and_eq_true,Bool.or_eq_true] at hd;obtain ⟨hB,jR⟩:=hd;simp only [Region.lexB,Bool.and_eq_true] at hB
   have fin:∀I:St cod→Prop,mS cfg ops I (fun s=>s=bg) ops.toList.length (Array.replicate ops.size false) st→(Code.region id ops true).wp cfg.P Q a w:=fun I hI=>by
    refine wp_region_any hm (jd hS (I:=I) (Q:=fun s=>s=bg) (fun s _=>⟨Fb.none z7 _ _,fun k ⟨⟨d,hd⟩,_⟩=>by rw [z7 d] at hd;cases hd⟩) (fun s a' w' hs nv=>by subst hs;exact hQ a' w' nv) _ _ st a _ (by simpa using hI) ?_);obtain ⟨env,hF,hdf,G,hb,hK⟩:=hR;exact ⟨env,hF,hdf,G.bG (Nat.le_refl _) (fun _ _=>rfl),hb.drew,hK⟩
   rcases jR with jR | jR
   ·refine fin (fun _=>True) (jv (fun i j oi oj Nk hi hj=>?_) ops.toList 0 _ st bg (by simp) (fun j o _ hl=>by simp [Array.getElem?_replicate] at hl;split at hl<;>simp_all) (fun j hj=>by omega) (by simpa using hB.2) (tU h) rfl);have:=tf jR Nk hi hj;simp only [Bool.or_eq_true] at this;rcases this with hc | hc
    ·exact .inl fun vV s s1 s2 _ k1 k2=>let ⟨t1,q1,q2⟩:=qk k1 k2 vV hc;⟨t1,q1,q2,fun _=>trivial⟩
    ·exact .inr hc
   ·unfold GU at jR;simp only [Bool.and_eq_true,decide_eq_true_eq] at jR;obtain ⟨⟨hk,hn⟩,hp⟩:=jR;have tE:∀o∈ops.toList,vI cfg o=true:=fun o ho=>List.all_eq_true.1 hk o ho;refine fin (fun s=>z8 st.tmps bg.tmps s.tmps) (jv (fun i j oi oj Nk hi hj=>?_) ops.toList 0 _ st bg (by simp) (fun j o _ hl=>by simp [Array.getElem?_replicate] at hl;split at hl<;>simp_all) (fun j hj=>by omega) (by simpa using hB.2) (yR h tE hn (fun _=>.inl rfl)) rfl);have:=tf hp Nk hi hj;simp only [Bool.or_eq_true] at this;rcases this with (hc | hc) | hc
    ·exact .inl fun vV s s1 s2 hI k1 k2=>H0 hI k1 k2 vV hc
    ·exact .inr hc
    ·exact .inl fun vV s s1 s2 hI k1 k2=>H3 hI k1 k2 vV hc
end
end Sym
end Go.Proofs.YtcjagpfbhnmggaaGreatDoor
