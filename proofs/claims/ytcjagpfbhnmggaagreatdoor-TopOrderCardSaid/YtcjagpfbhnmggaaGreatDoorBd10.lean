/- Parts of the proof. -/
import Derived.Test.YtcjagpfbhnmggaaGreatDoorBd9
namespace Go.Proofs.YtcjagpfbhnmggaaGreatDoor
namespace Sym
open Go.RowKit
section
variable {cod:Nat→aO}
def okP (o:Oper):Bool:=
 match o.op with
 | .move x | .assign x=>!fe x
 | .nilCheck _ | .fieldAddr _ _ _ | .load _ _ | .indexAddr _ _ _ | .store _ _ _ | .binOp _ _ _ _ _ | .unOp _ _ _ | .alloc _ | .box _ _=>true
 | _=>false
theorem MV {wrap:Bool} {op:BinOp} {x y r:SV} (h:(S5 wrap op x y).ah r):r.hs=[]:=by
 have ar:∀{k:IntKind} {n:Int} {r:SV},(arith wrap k n).ah r→r.hs=[]:=fun h=>by rw [xm h];rfl
 have bo:∀{b:Bool} {r:SV},(cM b).ah r→r.hs=[]:=fun h=>by rw [cM,T.ad] at h;rw [←h];rfl
 unfold S5 at h;split at h
 ·split at h
  ·rw [T.ak,T.ad] at h;rw [←h.2];rfl
  ·rw [T.ak,T.ad] at h;rw [←h.2];rfl
  ·split at h
   ·split at h
    ·exact ar h
    ·exact ar h
    ·exact ar h
    ·rw [T.ak] at h;exact ar h.2
    ·rw [T.ak,T.ad] at h;rw [←h.2];rfl
    ·rw [T.ad] at h;rw [←h];rfl
    ·rw [T.ad] at h;rw [←h];rfl
    ·rw [T.ad] at h;rw [←h];rfl
    ·rw [T.ad] at h;rw [←h];rfl
    ·exact bo h
    ·exact bo h
    ·exact bo h
    ·exact bo h
    ·exact bo h
    ·exact bo h
    ·exact h.elim
   ·exact h.elim
 ·split at h
  ·rw [T.ak,T.ad] at h;rw [←h.2];rfl
  all_goals first | exact h.elim | exact bo h
 ·exact h.elim
theorem OD {P:Program} {wrap:Bool} {op:BinOp} {t:TypeId} {x y r:SV} (h:(qJ P wrap op t x y).ah r):r.hs=[]:=by
 have bo:∀{b:Bool} {r:SV},(cM b).ah r→r.hs=[]:=fun h=>by rw [cM,T.ad] at h;rw [←h];rfl
 unfold qJ at h;split at h
 ·exact MV h
 ·exact MV h
 ·unfold YE at h;split at h
  ·split at h
   case h_7 | h_8 | h_9 | h_10=>rw [T.ak,T.ad] at h;rw [←h.2];rfl
   case h_11=>exact h.elim
   all_goals exact bo h
  ·exact h.elim
 ·split at h
  ·split at h
   ·exact bo h
   ·split at h
    ·rw [T.ak] at h;exact bo h.2
    ·exact h.elim
  ·split at h
   ·exact bo h
   ·split at h
    ·rw [T.ak] at h;exact bo h.2
    ·exact h.elim
  ·exact h.elim
theorem afV {wrap:Bool} {op:UnOp} {x r:SV} (h:(unS wrap op x).ah r):r.hs=[]:=by
 unfold unS at h;split at h
 ·rw [xm h];rfl
 ·rw [T.ad] at h;rw [←h];rfl
 ·split at h
  ·rw [cM,T.ad] at h;rw [←h];rfl
  ·exact h.elim
 ·exact h.elim
theorem B3 {c:Cell} (h:c.scalar=true):c.hs=[]:=by cases c<;>simp [Cell.scalar] at h<;>rfl
theorem GL {H:Heap cod} {h i o n:Nat} {cs:List Cell} (hl:(fH H h i o n).ah cs):∀k∈cs.flatMap Cell.hs,∃ob∈H,k∈ob.hs:=by
 have row:∀(t:Nat) (l:List (cod t).α),(if o+n≤(cod t).size then T.aa (i < l.length) (T.ret ((((cod t).enc (l.getD i (cod t).d)).drop o).take n)) else if i=0∧o=0 then T.aa (l.length*(cod t).size=n) (T.ret (l.flatMap (cod t).enc)) else T.fail:T (List Cell)).ah cs→∀k∈cs.flatMap Cell.hs,∃ob∈H,k∈ob.hs:=by
  intro t l hg k hk;obtain ⟨c,hc,J9⟩:=List.mem_flatMap.1 hk;exfalso
  have:c.scalar=true:=by
   split at hg
   ·rw [T.ak,T.ad] at hg;rw [←hg.2] at hc;exact List.all_eq_true.1 ((cod t).l3 _) c (List.mem_of_mem_drop (List.mem_of_mem_take hc))
   ·split at hg
    ·rw [T.ak,T.ad] at hg;rw [←hg.2] at hc;exact List.all_eq_true.1 (gD _ _) c hc
    ·exact hg.elim
  rw [B3 this] at J9;cases J9
 have aF:∀(c0:List Cell) (ob:av cod),getObj H h=ob→ob≠.dead→ob.hs=c0.flatMap Cell.hs→(if i=0∧o+n≤c0.length then T.ret ((c0.drop o).take n) else T.fail:T (List Cell)).ah cs→∀k∈cs.flatMap Cell.hs,∃ob∈H,k∈ob.hs:=by
  intro c0 ob ho hd he hg k hk;split at hg
  ·rw [T.ad] at hg;subst hg;obtain ⟨c,hc,J9⟩:=List.mem_flatMap.1 hk;refine ⟨ob,List.mem_of_getElem? (aE ho hd),?_⟩;rw [he];exact List.mem_flatMap.2 ⟨c,List.mem_of_mem_drop (List.mem_of_mem_take hc),J9⟩
  ·exact hg.elim
 unfold fH at hl
 cases ho:getObj H h with
 | aF c0 ty=>rw [ho] at hl;exact aF c0 _ ho (by simp) rfl hl
 | aY c0=>rw [ho] at hl;exact aF c0 _ ho (by simp) rfl hl
 | gL c0=>rw [ho] at hl;exact aF c0 _ ho (by simp) rfl hl
 | cj t LL js cs0 ty tyr=>
   rw [ho] at hl;simp only at hl;split at hl
   ·have key:∀(EZ:List Nat) (uK:List Cell),(∀c∈uK,c∈cs0)→(BS LL.length i EZ uK).ah cs→∃c∈cs0,cs=[c]:=by
     intro EZ
     induction EZ with
     | nil=>intro uK _ hp;cases uK<;>exact hp.elim
     | cons j EZ ih=>
       intro uK hk hp
       cases uK with
       | nil=>cases EZ<;>exact hp.elim
       | cons c uK=>
         have two:((T.ite (decide (i=j)) (.aa (j < LL.length) (.ret [c])) (BS LL.length i EZ uK):T (List Cell))).ah cs→∃c∈cs0,cs=[c]:=fun hp=>by
          by_cases e:i=j
          ·exact ⟨c,hk c (List.mem_cons_self ..),(hp.1 (decide_eq_true e)).2.symm⟩
          ·exact ih uK (fun c hc=>hk c (List.mem_cons_of_mem _ hc)) (hp.2 (decide_eq_false e))
         cases EZ with
         | nil=>
           cases uK with
           | nil=>exact ⟨c,hk c (List.mem_cons_self ..),hp.2.symm⟩
           | cons c' uK=>exact two hp
         | cons j' EZ=>exact two hp
    obtain ⟨c,hc,rfl⟩:=key js cs0 (fun _ h=>h) hl;intro k hk;simp only [List.flatMap_cons,List.flatMap_nil,List.append_nil] at hk;exact ⟨_,List.mem_of_getElem? (aE ho (by simp)),List.mem_flatMap.2 ⟨c,hc,hk⟩⟩
   ·exact hl.elim
 | arr t l ty=>rw [ho] at hl;exact row t l hl
 | iC pre t m l post ty=>
   rw [ho] at hl;intro k hk;exfalso;obtain ⟨c,hc,J9⟩:=List.mem_flatMap.1 hk
   have:c.scalar=true:=by
    simp only at hl;split at hl
    ·rw [T.ak,T.ad] at hl;rw [←hl.2] at hc;exact List.all_eq_true.1 ((cod t).l3 _) c (List.mem_of_mem_drop (List.mem_of_mem_take hc))
    ·split at hl
     ·rename_i hq;rw [T.ad] at hl;rw [←hl] at hc;exact List.all_eq_true.1 hq.2.2 c hc
     ·split at hl
      ·rw [T.ad] at hl;rw [←hl] at hc;exact List.all_eq_true.1 (gD _ _) c hc
      ·split at hl
       ·rename_i hq;rw [T.ad] at hl;rw [←hl] at hc;exact List.all_eq_true.1 hq.2.2.2 c hc
       ·exact hl.elim
   rw [B3 this] at J9
   cases J9
 | own t l ty=>rw [ho] at hl;exact row t l hl
 | aB t l=>rw [ho] at hl;exact row t l hl
 | cL t LL op=>
   rw [ho] at hl
   cases op with
   | none=>exact hl.elim
   | some p=>
     obtain ⟨j,c⟩:=p;simp only at hl;split at hl
     ·rw [T.ak,T.ad] at hl;obtain ⟨_,rfl⟩:=hl;intro k hk;refine ⟨_,List.mem_of_getElem? (aE ho (by simp)),?_⟩;simpa [av.hs] using hk
     ·exact hl.elim
 | dead=>rw [ho] at hl;exact hl.elim
theorem AV {x:SV} {h i n:Nat} {t:Bool} (e:mT x=some (h,i,n,t)):h∈x.hs:=by
 unfold mT at e;split at e
 ·cases e;exact List.mem_singleton.2 rfl
 ·cases e;exact List.mem_singleton.2 rfl
 ·cases e
theorem aaj {a:Addr} {r:SV} (h:(Ra a).ah r):r.hs=[]:=by
 unfold Ra at h;split at h
 ·split at h
  ·rw [T.ad] at h;rw [←h];rfl
  ·exact h.elim
 ·exact h.elim
theorem Aq {P:Program} {H:Heap cod} {t:TypeId} {x ix r:SV} (h:(dw P H t x ix).ah r):∀k∈r.hs,k∈x.hs:=by
 unfold dw at h;split at h
 ·split at h
  ·split at h
   ·split at h
    ·rw [T.ak,T.ad] at h;rw [←h.2];exact fun _ h=>h
    ·split at h
     ·rw [T.ak,T.ad] at h;rw [←h.2];exact fun _ h=>h
     ·exact h.elim
   ·split at h
    ·split at h
     ·rw [T.ad] at h;rw [←h];exact fun _ h=>h
     ·exact h.elim
    ·exact h.elim
   ·split at h
    ·split at h
     ·rw [T.ad] at h;rw [←h];exact fun _ h=>h
     ·exact h.elim
    ·exact h.elim
   ·split at h
    ·rw [T.ak,T.ad] at h;rw [←h.2];exact fun _ h=>h
    ·exact h.elim
   ·split at h
    ·rw [T.ak,T.ad] at h;rw [←h.2];exact fun _ h=>h
    ·exact h.elim
   ·exact h.elim
  ·split at h
   ·rw [T.ak,T.ad] at h;rw [←h.2];exact fun _ h=>h
   ·exact h.elim
  ·exact h.elim
 ·split at h
  ·rename_i hs;have hm:∀k,k=_→k∈x.hs:=fun k hk=>by rw [hk];exact AV hs
   split at h
   all_goals first
    | exact h.elim
    | (split at h
       ·rw [T.ak,T.ad] at h;rw [←h.2];intro k hk;simp only [SV.hs,Cell.hs,List.mem_singleton] at hk;exact hm k hk
       ·exact h.elim)
    | (split at h
       ·split at h
        ·rw [T.ad] at h;rw [←h];intro k hk;simp only [SV.hs,Cell.hs,List.mem_singleton] at hk;exact hm k hk
        ·exact h.elim
       ·exact h.elim)
  ·exact h.elim
 ·exact h.elim
theorem QZ {H H':Heap cod} {h i o:Nat} {xs:List Cell} (hs:(ky H h i o xs).ah H'):(∀ob∈H',∀k∈ob.hs,(∃ob∈H,k∈ob.hs)∨k∈xs.flatMap Cell.hs)∧∀k,(getObj H' k).aV=true→(getObj H k).aV=true:=by
 have key:∀(ob Qd:av cod),getObj H h=ob→ob≠.dead→Qd.aV=false→(∀k∈Qd.hs,k∈ob.hs∨k∈xs.flatMap Cell.hs)→H'=H.set h Qd→(∀ob∈H',∀k∈ob.hs,(∃ob∈H,k∈ob.hs)∨k∈xs.flatMap Cell.hs)∧∀k,(getObj H' k).aV=true→(getObj H k).aV=true:=by
  intro ob Qd ho hd hh acN he;subst he;have hg:=aE ho hd;refine ⟨fun a ha k hk=>?_,fun k hk=>?_⟩
  ·rcases List.mem_or_eq_of_mem_set ha with h1 | h1
   ·exact .inl ⟨a,h1,hk⟩
   ·subst h1;rcases acN k hk with h2 | h2
    ·exact .inl ⟨ob,List.mem_of_getElem? hg,h2⟩
    ·exact .inr h2
  ·by_cases e:k=h
   ·subst e;rw [cK (List.getElem?_set_self (List.getElem?_eq_some_iff.1 hg).1),hh] at hk;cases hk
   ·unfold getObj at hk ⊢;simp only [List.getD] at hk ⊢
    rwa [List.getElem?_set_ne (by omega)] at hk
 unfold ky at hs
 cases ho:getObj H h with
 | aF c0 ty=>
   rw [ho] at hs;simp only at hs;split at hs
   ·rw [T.ad] at hs;refine key _ _ ho (by simp) rfl (fun k hk=>?_) hs.symm;obtain ⟨c,hc,J9⟩:=List.mem_flatMap.1 hk;unfold cS at hc;rcases List.mem_append.1 hc with h1 | h1
    ·exact .inl (List.mem_flatMap.2 ⟨c,List.mem_of_mem_take h1,J9⟩)
    ·rcases List.mem_append.1 h1 with h2 | h2
     ·exact .inr (List.mem_flatMap.2 ⟨c,h2,J9⟩)
     ·exact .inl (List.mem_flatMap.2 ⟨c,List.mem_of_mem_drop h2,J9⟩)
   ·exact hs.elim
 | arr t l ty=>
   rw [ho] at hs;simp only at hs;split at hs
   ·rw [T.ak,T.ad] at hs;exact key _ _ ho (by simp) (by rfl) (fun k hk=>by cases hk) hs.2.symm
   ·exact hs.elim
 | own t l ty=>
   rw [ho] at hs;simp only at hs;split at hs
   ·rw [T.ak,T.ad] at hs;exact key _ _ ho (by simp) (by rfl) (fun k hk=>by cases hk) hs.2.symm
   ·exact hs.elim
 | iC pre t m l post ty=>
   rw [ho] at hs;simp only at hs;split at hs
   ·rw [T.ak,T.ad] at hs;exact key _ _ ho (by simp) (by rfl) (fun k hk=>by cases hk) hs.2.symm
   ·split at hs
    ·rw [T.ad] at hs;exact key _ _ ho (by simp) (by rfl) (fun k hk=>by cases hk) hs.symm
    ·split at hs
     ·rw [T.ad] at hs;exact key _ _ ho (by simp) (by rfl) (fun k hk=>by cases hk) hs.symm
     ·exact hs.elim
 | aY c0=>rw [ho] at hs;exact hs.elim
 | gL c0=>rw [ho] at hs;exact hs.elim
 | aB t l=>rw [ho] at hs;exact hs.elim
 | cL t LL op=>rw [ho] at hs;exact hs.elim
 | cj t LL js cs ty tyr=>rw [ho] at hs;exact hs.elim
 | dead=>rw [ho] at hs;exact hs.elim
theorem ZD {cfg:aT cod} {tm:List SV} {H:Heap cod} {o:Oper} {out:Out cod} (hk:okP o=true) (hp:fJ o=true→(o.dst.bind cfg.place).isSome=true) (h:(iB cfg tm H o).ah out):
 (∀k∈out.v.hs,iV tm H k∨(getObj out.H k).aV=false)∧(∀ob∈out.H,∀k∈ob.hs,iV tm H k)∧∀k,(getObj out.H k).aV=true→(getObj H k).aV=true:=by
 have same:out.H=H→(∀k∈out.v.hs,iV tm H k)→(∀k∈out.v.hs,iV tm H k∨(getObj out.H k).aV=false)∧(∀ob∈out.H,∀k∈ob.hs,iV tm H k)∧∀k,(getObj out.H k).aV=true→(getObj H k).aV=true:=fun e hv=>by
  rw [e];exact ⟨fun k hk=>.inl (hv k hk),fun ob dN k hk=>.inr ⟨ob,dN,hk⟩,fun _ h=>h⟩
 have bG:∀{t:T SV},(∀r,t.ah r→∀k∈r.hs,iV tm H k)→(t.bind fun v=>T.ret ({v:=v,H:=H}:Out cod)).ah out→(∀k∈out.v.hs,iV tm H k∨(getObj out.H k).aV=false)∧(∀ob∈out.H,∀k∈ob.hs,iV tm H k)∧∀k,(getObj out.H k).aV=true→(getObj H k).aV=true:=fun ht hh=>by
  rw [T.aw] at hh;obtain ⟨v,h1,h2⟩:=hh;rw [T.ad] at h2;subst h2;exact same rfl (ht v h1)
 have mk:∀(t:TypeId) (cs:List Cell),(∀k∈cs.flatMap Cell.hs,iV tm H k)→fJ o=true→(iy cfg o.dst H (fB cfg t cs)).ah out→(∀k∈out.v.hs,iV tm H k∨(getObj out.H k).aV=false)∧(∀ob∈out.H,∀k∈ob.hs,iV tm H k)∧∀k,(getObj out.H k).aV=true→(getObj H k).aV=true:=by
  intro t cs pX hn hm;obtain ⟨k,hk⟩:=Option.isSome_iff_exists.1 (hp hn);obtain ⟨hh,rfl⟩:=pZ hk hm;obtain ⟨_,_,v3,v4,_⟩:=me cfg t cs;have hg:H[k]? =some (getObj H k):=dt (fun e=>by rw [e] at hh;cases hh);have Uv:getObj (H.set k (fB cfg t cs)) k=fB cfg t cs:=cK (List.getElem?_set_self (List.getElem?_eq_some_iff.1 hg).1);refine ⟨fun q hq=>?_,fun ob dN q hq=>?_,fun q hq=>?_⟩
  ·simp only [SV.hs,Cell.hs,List.mem_singleton] at hq;subst hq;exact .inr (by simp only;rw [Uv];exact v3)
  ·rcases List.mem_or_eq_of_mem_set dN with h1 | h1
   ·exact .inr ⟨ob,h1,hq⟩
   ·subst h1;exact pX q (v4 q hq)
  ·by_cases e:q=k
   ·subst e;simp only at hq;rw [Uv,v3] at hq;cases hq
   ·unfold getObj at hq ⊢;simp only [List.getD] at hq ⊢
    rwa [List.getElem?_set_ne (by omega)] at hq
 unfold okP at hk;unfold iB at h
 cases ho:o.op with
 | move x=>
   simp only [ho] at hk h;have hn:fe x=false:=by simpa using hk
   simp only [hn] at h;rw [T.ad] at h;subst h
   exact same rfl fun k hk=>.inl (eC hk)
 | assign x=>
   simp only [ho] at hk h;have hn:fe x=false:=by simpa using hk
   simp only [hn] at h;rw [T.ad] at h;subst h
   exact same rfl fun k hk=>.inl (eC hk)
 | nilCheck x=>
   simp only [ho] at h;split at h
   ·rename_i k i off e;rw [T.ad] at h;subst h;exact same rfl fun k hk=>.inl (eC (x:=x) (by rw [e];exact hk))
   ·rename_i f dC e;rw [T.ad] at h;subst h;exact same rfl fun k hk=>.inl (eC (x:=x) (by rw [e];exact hk))
   ·exact h.elim
 | fieldAddr t x f=>
   simp only [ho] at h;split at h
   ·rename_i k i off fs e _;split at h
    ·split at h
     ·exact h.elim
     ·rw [T.ad] at h;subst h;exact same rfl fun k hk=>.inl (eC (x:=x) (by rw [e];exact hk))
    ·exact h.elim
   ·exact h.elim
 | load t x=>
   simp only [ho] at h;split at h
   ·rename_i k i off e;split at h
    ·exact bG (fun r hr k hk=>by
      rw [T.aw] at hr;obtain ⟨cs,h1,h2⟩:=hr;rw [T.ad] at h2;subst h2;exact .inr (GL h1 k hk)) h
    ·split at h
     ·exact bG (fun r hr k hk=>by
       rw [T.aw] at hr;obtain ⟨cs,h1,h2⟩:=hr;split at h2
       ·rename_i c;rw [T.ad] at h2;subst h2;exact .inr (GL h1 k (by simpa [SV.hs] using hk))
       ·exact h2.elim) h
     ·exact h.elim
   ·split at h
    ·exact bG (fun r hr k hk=>by rw [aaj hr] at hk;cases hk) h
    ·exact h.elim
   ·exact h.elim
 | indexAddr t x ix=>
   simp only [ho] at h
   exact bG (fun r hr k hk=>.inl (eC (Aq hr k hk))) h
 | store t x y=>
   simp only [ho] at h;split at h
   ·split at h
    ·rw [T.aw] at h;obtain ⟨H',hs,hr⟩:=h;rw [T.ad] at hr;subst hr;obtain ⟨h1,h2⟩:=QZ hs;refine ⟨(fun k hk=>by cases hk),fun ob dN k hk=>?_,h2⟩;rcases h1 ob dN k hk with h3 | h3
     ·exact .inr h3
     ·exact pQ h3
    ·exact h.elim
   ·exact h.elim
 | binOp op t x y ty=>
   simp only [ho] at h
   exact bG (fun r hr k hk=>by rw [OD hr] at hk;cases hk) h
 | unOp op t x=>
   simp only [ho] at h
   exact bG (fun r hr k hk=>by rw [afV hr] at hk;cases hk) h
 | alloc e=>
   simp only [ho] at h;split at h
   ·rename_i cs hz;refine mk e cs (fun k hk=>?_) (by unfold fJ;rw [ho]) h;unfold zeroCells at hz;split at hz
    ·cases hz;rw [iT] at hk;cases hk
    ·cases hz
   ·exact h.elim
 | box e x=>
   simp only [ho] at h;split at h
   ·exact mk e _ (fun k hk=>pQ hk) (by unfold fJ;rw [ho]) h
   ·exact h.elim
 | _=>simp only [ho] at hk;cases hk
end
end Sym
end Go.Proofs.YtcjagpfbhnmggaaGreatDoor
