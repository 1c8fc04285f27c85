/- Parts of the proof. -/
import Derived.Test.YtcjagpfbhnmggaaGreatDoorBd14
namespace Go.Proofs.YtcjagpfbhnmggaaGreatDoor
namespace Sym
open Go.RowKit
section
variable {cod:Nat→aO}
def Cell.low (n:Nat) (c:Cell):Cell:=if c.hs.all (fun h=>decide (h < n)) then c else .eJ
def yz (bG:List Nat) (n:Nat):Nat→List SV→List SV
 | _,[]=>[]
 | i,x::l=>(if bG.contains i then x.aX (Cell.low n) else .c .eJ)::yz bG n (i+1) l
def St.fit (bG:List Nat) (n:Nat) (st:St cod):St cod:={tmps:=yz bG n 0 st.tmps,heap:=(st.heap.take n).map (av.aX (Cell.low n))}
theorem FN {env:Env} {N n M:Nat} {c:Cell} {v:Value} (hM:∀k,k < N→k < n→k < M) (h:bZ env N c v):bZ env M (c.low n) v:=by
 unfold Cell.low;split
 ·rename_i hc;have cI:∀k∈c.hs,k < n:=fun k hk=>by simpa using List.all_eq_true.1 hc k hk
  cases c<;>simp only [bZ,Cell.hs] at* <;>try exact h
  case ptr k i o=>exact ⟨hM k h.1 (cI k (by simp)),h.2⟩
  case ai k i m t=>exact ⟨hM k h.1 (cI k (by simp)),h.2⟩
  case own k m=>exact ⟨hM k h.1 (cI k (by simp)),h.2⟩
  case fn f dC=>exact ⟨fun c mA=>hM c.1 (h.1 c mA) (cI c.1 (List.mem_map.2 ⟨c,mA,rfl⟩)),h.2⟩
 ·trivial
theorem GQ {env:Env} {N n M:Nat} (bG:List Nat) (hM:∀k,k < N→k < n→k < M):∀(i:Nat) {l:List SV} {vs:List Value},F2 (aS env N) l vs→F2 (aS env M) (yz bG n i l) vs
 | _,_,_,.nil=>.nil
 | i,_,_,.cons h t=>by
   refine .cons ?_ (GQ bG hM (i+1) t);split
   ·exact iH (fun c v hc=>FN hM hc) h
   ·trivial
theorem oh {st:St cod} {b:aC} {a:Act} {w:World} (bG:List Nat) (n:Nat) (hn:b.n≤n) (hR:Rel st b a w):Rel (st.fit bG n) b a w:=by
 obtain ⟨env,hF,hd,G,hb,so,zZ,tC⟩:=hR;have hlen:(st.fit bG n).heap.length=min n st.heap.length:=by simp [St.fit]
 have hM:∀k,k < st.heap.length→k < n→k < (st.fit bG n).heap.length:=fun k h1 h2=>by rw [hlen];omega
 have get:∀(k:Nat) (o:av cod),(st.fit bG n).heap[k]? =some o→∃o':av cod,st.heap[k]? =some o'∧o=o'.aX (Cell.low n):=fun k o ho=>by
  simp only [St.fit,List.getElem?_map] at ho;obtain ⟨o',h1,rfl⟩:=Option.map_eq_some_iff.1 ho;rw [List.getElem?_take] at h1;split at h1
  ·exact ⟨o',h1,rfl⟩
  ·cases h1
 refine ⟨env,GQ bG hM 0 hF,hd,⟨fun k o ho=>?_,fun k k' o o' c bP ho jS hw hc cY=>?_,G.sr⟩,hb,so,by rw [hlen];omega,fun k o hk ho dS=>?_⟩
 ·obtain ⟨o',h1,rfl⟩:=get k o ho;exact dx (fun c v hc=>FN hM hc) (G.obj k o' h1)
 ·obtain ⟨p,h1,rfl⟩:=get k o ho;obtain ⟨p',jj,rfl⟩:=get k' o' jS;rw [cu] at hc cY;rw [fT] at hw;exact G.sep k k' p p' c bP h1 jj hw hc cY
 ·obtain ⟨o',h1,rfl⟩:=get k o ho;rw [j7] at dS;exact tC k o' hk h1 dS
section
variable {R:Type}
def tB (c:Cell) (k:Cell→R):R:=
 match c with
 | .int a n=>k (.int a n)
 | .bool b=>k (.bool b)
 | .str s=>k (.str s)
 | .ptr h i o=>k (.ptr h i o)
 | .ai h i n t=>k (.ai h i n t)
 | .own h n=>k (.own h n)
 | .nil=>k .nil
 | .fn f l=>k (.fn f l)
 | .raw v=>k (.raw v)
 | .eJ=>k .eJ
noncomputable def gE (l:List Cell):(List Cell→R)→R:=List.rec (motive:=fun _=>(List Cell→R)→R) (fun k=>k []) (fun x _ ih k=>tB x fun x=>ih fun xs=>k (x::xs)) l
noncomputable def Dq (v:SV) (k:SV→R):R:=
 match v with
 | .c x=>tB x fun x=>k (.c x)
 | .agg cs=>gE cs fun cs=>k (.agg cs)
 | .aP vs=>k (.aP vs)
noncomputable def x9 (l:List SV):(List SV→R)→R:=List.rec (motive:=fun _=>(List SV→R)→R) (fun k=>k []) (fun x _ ih k=>Dq x fun x=>ih fun xs=>k (x::xs)) l
noncomputable def JY (v:SV) (k:SV→R):R:=
 match v with
 | .c x=>tB x fun x=>k (.c x)
 | .agg cs=>gE cs fun cs=>k (.agg cs)
 | .aP vs=>x9 vs fun vs=>k (.aP vs)
noncomputable def Dr (l:List SV):(List SV→R)→R:=List.rec (motive:=fun _=>(List SV→R)→R) (fun k=>k []) (fun x _ ih k=>JY x fun x=>ih fun xs=>k (x::xs)) l
noncomputable def JW (o:av cod) (k:av cod→R):R:=
 match o with
 | .aF cs ty=>gE cs fun cs=>k (.aF cs ty)
 | .aY cs=>gE cs fun cs=>k (.aY cs)
 | .gL cs=>gE cs fun cs=>k (.gL cs)
 | .arr t l ty=>k (.arr t l ty)
 | .iC pre t m l post ty=>gE pre fun pre=>gE post fun post=>k (.iC pre t m l post ty)
 | .own t l ty=>k (.own t l ty)
 | .aB t l=>k (.aB t l)
 | .cL t LL op=>match op with
   | none=>k (.cL t LL none)
   | some p=>match p with
     | (i,c)=>tB c fun c=>k (.cL t LL (some (i,c)))
 | .cj t LL js cs ty tyr=>gE cs fun cs=>k (.cj t LL js cs ty tyr)
 | .dead=>k .dead
noncomputable def JV (l:Heap cod):(Heap cod→R)→R:=List.rec (motive:=fun _=>(Heap cod→R)→R) (fun k=>k []) (fun x _ ih k=>JW x fun x=>ih fun xs=>k (x::xs)) l
noncomputable def rm (st:St cod) (k:St cod→R):R:=Dr st.tmps fun tm=>JV st.heap fun H=>k ⟨tm,H⟩
theorem ol (c:Cell) (k:Cell→R):tB c k=k c:=by cases c<;>rfl
theorem ef:∀(l:List Cell) (k:List Cell→R),gE l k=k l
 | [],_=>rfl
 | x::l,k=>by
   show tB x (fun x=>gE l fun xs=>k (x::xs))=_;rw [ol];exact ef l (fun xs=>k (x::xs))
theorem JZ (v:SV) (k:SV→R):Dq v k=k v:=by
 cases v with
 | c x=>exact ol x (fun x=>k (.c x))
 | agg cs=>exact ef cs (fun x=>k (.agg x))
 | aP vs=>rfl
theorem uR:∀(l:List SV) (k:List SV→R),x9 l k=k l
 | [],_=>rfl
 | x::l,k=>by
   show Dq x (fun x=>x9 l fun xs=>k (x::xs))=_;rw [JZ];exact uR l (fun xs=>k (x::xs))
theorem Pd (v:SV) (k:SV→R):JY v k=k v:=by
 cases v with
 | c x=>exact ol x (fun x=>k (.c x))
 | agg cs=>exact ef cs (fun x=>k (.agg x))
 | aP vs=>exact uR vs (fun x=>k (.aP x))
theorem ya:∀(l:List SV) (k:List SV→R),Dr l k=k l
 | [],_=>rfl
 | x::l,k=>by
   show JY x (fun x=>Dr l fun xs=>k (x::xs))=_;rw [Pd];exact ya l (fun xs=>k (x::xs))
theorem Pc (o:av cod) (k:av cod→R):JW o k=k o:=by
 cases o with
 | aF cs ty=>exact ef cs (fun x=>k (.aF x ty))
 | aY cs=>exact ef cs (fun x=>k (.aY x))
 | gL cs=>exact ef cs (fun x=>k (.gL x))
 | iC pre t m l post ty=>
   refine (ef pre (fun x=>gE post fun y=>k (.iC x t m l y ty))).trans ?_
   exact ef post (fun y=>k (.iC pre t m l y ty))
 | cj t LL js cs ty tyr=>exact ef cs (fun x=>k (.cj t LL js x ty tyr))
 | cL t LL op=>
   cases op with
   | none=>rfl
   | some p=>exact ol p.2 (fun c=>k (.cL t LL (some (p.1,c))))
 | _=>rfl
theorem Bz:∀(l:Heap cod) (k:Heap cod→R),JV l k=k l
 | [],_=>rfl
 | x::l,k=>by
   show JW x (fun x=>JV l fun xs=>k (x::xs))=_;rw [Pc];exact Bz l (fun xs=>k (x::xs))
theorem JX (st:St cod) (k:St cod→R):rm st k=k st:=by
 unfold rm;rw [ya,Bz]
end
inductive Fs (cod:Nat→aO) where
 | cut (k:List Item) (st:St cod)
 | done (st:St cod)
def keyOf:Code→Option Nat
 | .region id _ _=>some id
 | .seq a b=>match keyOf a with
   | some k=>some k
   | none=>keyOf b
 | .block _ c=>keyOf c
 | .loop c=>keyOf c
 | .scope c=>keyOf c
 | _=>none
abbrev bA:=List (Nat×List Nat×Nat)
def aaM (cuts:bA) (c:Code):Option (List Nat×Nat):=
 match keyOf c with
 | none=>none
 | some k=>(cuts.find? fun p=>p.1==k).map (·.2)
noncomputable def sym {β:Type} (cfg:aT cod) (cuts:bA) (n:Nat) (f:Fs cod→T β):Nat→List Item→St cod→T β
 | 0,_,_=>.fail
 | _+1,[],st=>f (.done st)
 | g+1,x::k,st=>
   match x with
   | .inBlock _=>sym cfg cuts n f g k st
   | .inLoop c=>match aaM cuts c with
     | none=>sym cfg cuts n f g (.code c:: .inLoop c::k) st
     | some (bG,m)=>if n≤m then f (.cut (.code c:: .inLoop c::k) (st.fit bG m)) else .fail
   | .code c=>
     match c with
     | .skip=>sym cfg cuts n f g k st
     | .label _=>sym cfg cuts n f g k st
     | .seq a b=>sym cfg cuts n f g (.code a:: .code b::k) st
     | .region id ops draw=>
       match cuts.find? (fun p=>p.1==100000+id) with
       | some p=>if n≤p.2.2 then f (.cut (.code (.region id ops draw)::k) (st.fit p.2.1 p.2.2)) else .fail
       | none=>
       if draw=false∨(Region.lexB .any ops&&afx cfg ops)=true then ij cfg ops ops.toList st fun bg=>rm bg fun bg=>sym cfg cuts n f g k bg
       else if Region.lexB .any ops=true then
        if 2≤(gH ops.toList).length then
         if st.tmps.all (fun v=>v.hs.all fun h=>decide (h < st.heap.length))=true∧st.heap.all (fun o=>o.hs.all fun h=>decide (h < st.heap.length))=true then
          ij (cfg.cP st.heap.length (gH ops.toList)) ops ops.toList (st.hold (gH ops.toList).length) fun bg=>rm bg fun bg=>if Df cfg ops st bg=true then sym cfg cuts n f g k bg else .fail
         else .fail
        else ij cfg ops ops.toList st fun bg=>rm bg fun bg=>if GU cfg ops st.tmps bg.tmps=true then sym cfg cuts n f g k bg else .fail
       else .fail
     | .cond x t e=>match cD st.tmps x with
       | .c (.bool b)=>cond b (sym cfg cuts n f g (.code t::k) (st.ry (vt x) true)) (sym cfg cuts n f g (.code e::k) (st.ry (vt x) false))
       | _=>.fail
     | .block id b=>sym cfg cuts n f g (.code b:: .inBlock id::k) st
     | .loop b=>match aaM cuts b with
       | none=>sym cfg cuts n f g (.code b:: .inLoop b::k) st
       | some (bG,m)=>if n≤m then f (.cut (.code b:: .inLoop b::k) (st.fit bG m)) else .fail
     | .exit id=>match exitTo id k with
       | some k'=>sym cfg cuts n f g k' st
       | none=>.fail
     | .ret=>f (.done st)
     | _=>.fail
   | _=>.fail
def af (P:Program) (b0:aC) (k:List Item) (st:St cod) (Q:St cod→Prop):Prop:=
 ∀(b:Frame) (cs:List Frame) (a:Act) (w:World),Rel st b0 a w→∃bg a' w' todo,Q bg∧Rel bg b0 a' w'∧Steps P (lone (b.at a k) cs w) (lone {b.at a' todo with mode:=.returning} cs w')
theorem af.weaken {P:Program} {b0:aC} {k:List Item} {st bg:St cod} {Q:St cod→Prop} (h:∀a w,Rel st b0 a w→Rel bg b0 a w) (hr:af P b0 k bg Q):af P b0 k st Q:=
 fun b cs a w hR=>hr b cs a w (h a w hR)
theorem af.mono {P:Program} {b0:aC} {k:List Item} {st:St cod} {Q Q':St cod→Prop} (h:∀s,Q s→Q' s) (hr:af P b0 k st Q):af P b0 k st Q':=
 fun b cs a w hR=>let ⟨bg,a',w',todo,h1,h2,h3⟩:=hr b cs a w hR;⟨bg,a',w',todo,h _ h1,h2,h3⟩
theorem af.step {P:Program} {b0:aC} {k k':List Item} {st:St cod} {Q:St cod→Prop} (hs:∀(b:Frame) (cs:List Frame) (a:Act) (w:World),Rel st b0 a w→_root_.Go.step P (lone (b.at a k) cs w)= .next (lone (b.at a k') cs w)) (h:af P b0 k' st Q):af P b0 k st Q:=
 fun b cs a w hR=>let ⟨bg,a',w',todo,h1,h2,h3⟩:=h b cs a w hR;⟨bg,a',w',todo,h1,h2,.head (hs b cs a w hR) h3⟩
def abp (P:Program) (b0:aC) (Q:St cod→Prop):Fs cod→Prop
 | .done st=>Q st
 | .cut k st=>af P b0 k st Q
theorem Bt {st:St cod} {b0:aC} {a:Act} {w:World} {x:Operand} {q:Bool} (h:cD st.tmps x= .c (.bool q)) (hR:Rel st b0 a w):a.eval x= .bool q:=by
 obtain ⟨env,hF,_⟩:=hR;have:=xY hF x;rw [h] at this;exact this
theorem dg {cfg:aT cod} (hS:eL cfg) (hm:cfg.P.follows .mixedOrders=true) {cuts:bA} {b0:aC} {Q:St cod→Prop} {β:Type} {f:Fs cod→T β} {p:β} (hp:∀q,(f q).ah p→abp cfg.P b0 Q q):∀(g:Nat) (k:List Item) (st:St cod),(sym cfg cuts b0.n f g k st).ah p→af cfg.P b0 k st Q
 | 0,_,_,h=>h.elim
 | g+1,[],st,h=>by
   simp only [sym] at h
   exact fun b cs a w hR=>⟨st,a,w,[],hp _ h,hR,.one step_end⟩
 | g+1,x::k,st,h=>by
   simp only [sym,JX] at h;split at h
   ·exact af.step (fun b cs a w _=>step_inBlock) (dg hS hm hp g k st h)
   ·rename_i c;split at h
    ·exact af.step (fun b cs a w _=>step_inLoop) (dg hS hm hp g _ st h)
    ·rename_i bG m _;split at h
     ·rename_i hn;exact af.step (fun b cs a w _=>step_inLoop) (af.weaken (fun a w hR=>oh bG m hn hR) (hp _ h))
     ·exact h.elim
   ·rename_i c;split at h
    ·exact af.step (fun b cs a w _=>step_skip) (dg hS hm hp g k st h)
    ·exact af.step (fun b cs a w _=>step_label) (dg hS hm hp g k st h)
    ·exact af.step (fun b cs a w _=>step_seq) (dg hS hm hp g _ st h)
    ·rename_i id ops draw
     have run:∀bg,gx cfg ops ops.toList st bg→(draw=true→xT cfg ops st bg=true)→(sym cfg cuts b0.n f g k bg).ah p→af cfg.P b0 (.code (.region id ops draw)::k) st Q:=fun bg h1 hd h2=>by
      have hr:=dg hS hm hp g k bg h2;intro b cs a w hR;have hw:=Eb (id:=id) (draw:=draw) (Q:=fun e a' w'=>e= .normal∧Rel bg b0 a' w') hS.ok hS.2.2 hm hd h1 hR (fun a' w' nv=>⟨rfl,nv⟩);obtain ⟨e,a',w',⟨rfl,nv⟩,Dy⟩:=hw b k cs;obtain ⟨s,XO,RG,todo,q1,q2,q3⟩:=hr b cs a' w' nv;exact ⟨s,XO,RG,todo,q1,q2,Steps.trans Dy q3⟩
     split at h
     ·rename_i p _;split at h
      ·rename_i hn;exact af.weaken (fun a w hR=>oh p.2.1 p.2.2 hn hR) (hp _ h)
      ·exact h.elim
     split at h
     ·rename_i hd;obtain ⟨bg,h1,h2⟩:=fh _ _ _ _ h;refine run bg h1 (fun hdr=>?_) h2;rcases hd with hd | hd
      ·rw [hdr] at hd;cases hd
      ·unfold xT;simp only [Bool.and_eq_true] at hd;simp [hd]
     ·split at h
      ·rename_i hdr hl;split at h
       ·split at h
        ·rename_i hff;obtain ⟨bg,h1,h2⟩:=fh _ _ _ _ h;split at h2
         ·rename_i hdp;have aeI:draw=true:=by cases draw<;>simp at hdr ⊢
          subst aeI;have hr:=dg hS hm hp g k bg h2;intro b cs a w hR;have hw:=Ay (id:=id) (Q:=fun e a' w'=>e= .normal∧Rel bg b0 a' w') hS.ok hm hff.1 hff.2 hdp h1 hR (fun a' w' nv=>⟨rfl,nv⟩);obtain ⟨e,a',w',⟨rfl,nv⟩,Dy⟩:=hw b k cs;obtain ⟨s,XO,RG,todo,q1,q2,q3⟩:=hr b cs a' w' nv;exact ⟨s,XO,RG,todo,q1,q2,Steps.trans Dy q3⟩
         ·exact h2.elim
        ·exact h.elim
       obtain ⟨bg,h1,h2⟩:=fh _ _ _ _ h;split at h2
       ·rename_i hm2;refine run bg h1 (fun _=>?_) h2;unfold xT;simp [hl,hm2]
       ·exact h2.elim
      ·exact h.elim
    ·rename_i x t e;split at h
     ·rename_i q hq
      have hk:st.ry (vt x) q=st:=ot fun t ht=>by
       cases x<;>simp only [vt] at ht<;>first
        | (cases ht;done)
        | (simp only [Option.some.injEq] at ht;subst ht;exact hq)
      cases q with
      | true=>
        rw [cond_true,hk] at h
        exact af.step (fun b cs a w hR=>step_cond (Bt hq hR)) (dg hS hm hp g _ st h)
      | false=>
        rw [cond_false,hk] at h;exact af.step (fun b cs a w hR=>step_cond (Bt hq hR)) (dg hS hm hp g _ st h)
     ·exact h.elim
    ·exact af.step (fun b cs a w _=>step_block) (dg hS hm hp g _ st h)
    ·rename_i c;split at h
     ·exact af.step (fun b cs a w _=>step_loop) (dg hS hm hp g _ st h)
     ·rename_i bG m _;split at h
      ·rename_i hn;exact af.step (fun b cs a w _=>step_loop) (af.weaken (fun a w hR=>oh bG m hn hR) (hp _ h))
      ·exact h.elim
    ·rename_i id;split at h
     ·rename_i k' hk;exact af.step (fun b cs a w _=>step_exit hk) (dg hS hm hp g k' st h)
     ·exact h.elim
    ·exact fun b cs a w hR=>⟨st,a,w,_,hp _ h,hR,.one step_ret⟩
    ·exact h.elim
   ·exact h.elim
def mb (key:Nat):Code→List Item→Option (List Item)
 | .loop c,k=>if keyOf c=some key then some (.code c:: .inLoop c::k) else mb key c (.inLoop c::k)
 | .seq a b,k=>match mb key a (.code b::k) with
   | some r=>some r
   | none=>mb key b k
 | .block id c,k=>mb key c (.inBlock id::k)
 | .cond _ a b,k=>match mb key a k with
   | some r=>some r
   | none=>mb key b k
 | _,_=>none
def jN (key:Nat):Code→List Item→Option (List Item)
 | .region i ops d,k=>if i=key then some (.code (.region i ops d)::k) else none
 | .seq a b,k=>match jN key a (.code b::k) with
   | some r=>some r
   | none=>jN key b k
 | .cond _ a b,k=>match jN key a k with
   | some r=>some r
   | none=>jN key b k
 | .block id b,k=>jN key b (.inBlock id::k)
 | .loop b,k=>jN key b (.inLoop b::k)
 | _,_=>none
def aj (fn:Func):Code:=fn.body.getD .skip
def bu (fn:Func) (key:Nat):List Item:=(jN key (aj fn) []).getD []
def cutAt (fn:Func) (key:Nat):List Item:=(mb key (aj fn) []).getD []
end
end Sym
namespace Sym
open Go.RowKit
section
variable {cod:Nat→aO} {P:Program}
def ZM (P:Program) (st:St cod):ResultVar→T SV
 | .tmp t=>.ret (st.tmps.getD t (.c .eJ))
 | .cell a t=>match st.tmps.getD a (.c .eJ) with
   | .c (.ptr h i o)=>
     if dm P t then (fH st.heap h i o (P.cellsOf t)).bind fun cs=>.ret (.agg cs)
     else if (P.underlying t).isSome then (fH st.heap h i o 1).bind fun cs=>match cs with
      | [c]=>.ret (.c c)
      | _=>.fail
     else .fail
   | _=>.fail
def oN (P:Program) (st:St cod):List ResultVar→T (List SV)
 | []=>.ret []
 | r::rs=>(ZM P st r).bind fun v=>(oN P st rs).bind fun vs=>.ret (v::vs)
def SV.flat:SV→Bool
 | .aP _=>false
 | _=>true
def yO (P:Program) (rs:List ResultVar) (st:St cod):T SV:=
 (oN P st rs).bind fun vs=>match vs with
   | [v]=>.ret v
   | vs=>if vs.all SV.flat then .ret (.aP vs) else .fail
def jW (P:Program) (rs:List ResultVar) (n:Nat) (roots:List Nat) (st:St cod):T (SV×Heap cod):=
 (yO P rs st).bind fun r=>
   let hs:=(reach st.heap 3 (dh [] (r.hs++roots.flatMap fun h=>(getObj st.heap h).hs))).filter fun h=>decide (n≤h)
   let ok:=fun k=>decide (k < n)||hs.contains k
   let ρ:=fun h=>if h < n then h else n+hs.idxOf h
   if r.hs.all ok∧roots.all (fun h=>(getObj st.heap h).hs.all ok)∧hs.all (fun h=>(getObj st.heap h).hs.all ok&&(getObj st.heap h).wr) then
    .ret (r.aX (Cell.gp ρ),(List.range n).map (fun h=>if roots.contains h then (getObj st.heap h).aX (Cell.gp ρ) else .dead)++hs.map fun h=>(getObj st.heap h).aX (Cell.gp ρ))
   else .fail
def og (P:Program) (rs:List ResultVar) (n:Nat) (st:St cod):T (SV×Heap cod):=(jW P rs n [] st).bind fun p=>.ret (p.1,p.2.drop n)
def im (H:Heap cod):List Nat:=(List.range H.length).filter fun h=>(getObj H h).wr
def VU (a:Act):ResultVar→Sem Value
 | .tmp t=>pure (a.tmps.getD t undef)
 | .cell x t=>do loadVar t (←asAddr (a.tmps.getD x undef))
theorem QB {st:St cod} {env:Env} {w:World} {M:Nat→Prop} {a:Act} (hF:F2 (aS env st.heap.length) st.tmps a.tmps.toList) (G:Good env st.heap w M) {r:ResultVar} {v:SV} (h:(ZM P st r).ah v):
 ∃u,(VU a r).run P w= .ok u w∧aS env st.heap.length v u:=by
 have tmp:∀t,aS env st.heap.length (st.tmps.getD t (.c .eJ)) (a.tmps.getD t undef):=fun t=>by
  have:=Dk (R:=aS env st.heap.length) (da:=.c .eJ) (db:=undef) trivial hF t;simpa [Array.getD_eq_getD_getElem?,List.getD] using this
 cases r with
 | tmp t=>
   simp only [ZM,T.ad] at h;subst h
   exact ⟨_,rfl,tmp t⟩
 | cell x t=>
   simp only [ZM] at h;have hx:=tmp x;split at h
   ·rename_i k i off e;rw [e] at hx;obtain ⟨cI,hv⟩:=hx
    have hi:∀cs n,(fH st.heap k i off n).ah cs→∃vs:List Value,vs.length=n∧ct env st.heap.length cs vs∧(loadCells ((env k).addr i off) n).run P w= .ok vs.toArray w∧∀j u,vs[j]? =some u→w.cell? (((env k).addr i off).add j)=some u:=by
     intro cs n hl;obtain ⟨h1,vs,h2,h3⟩:=yx hl G;have hlen:=cq h2;have:=run_loadCells_list (P:=P) w ((env k).addr i off) vs h3;rw [←hlen,h1] at this;exact ⟨vs,by omega,h2,this,h3⟩
    split at h
    ·rename_i Dx;rw [T.aw] at h;obtain ⟨cs,hl,hr⟩:=h;rw [T.ad] at hr;subst hr;obtain ⟨vs,h1,h2,h3,_⟩:=hi cs _ hl
     have hu:(P.underlying t).isSome=true:=by
      unfold dm at Dx;split at Dx<;>simp_all
     refine ⟨.agg vs.toArray,?_,⟨_,rfl,by simpa using h2⟩⟩;simp [VU,hv,asAddr,loadVar,ga t w hu,Dx,bL (jX hu),h3]
    ·rename_i Dx;split at h
     ·rename_i hu;rw [T.aw] at h;obtain ⟨cs,hl,hr⟩:=h;split at hr
      ·rename_i c;rw [T.ad] at hr;subst hr;obtain ⟨vs,h1,h2,h3,h4⟩:=hi _ _ hl
       cases h2 with
       | @cons _ u _ us hcu hn=>
         cases hn;have hc:=h4 0 u rfl;have yf:((env k).addr i off).add 0=(env k).addr i off:=by simp [Addr.add]
         rw [yf] at hc;refine ⟨u,?_,hcu⟩;simp [VU,hv,asAddr,loadVar,ga t w hu,Dx,hc]
      ·exact hr.elim
     ·exact h.elim
   ·exact h.elim
theorem AU {st:St cod} {env:Env} {w:World} {M:Nat→Prop} {a:Act} (hF:F2 (aS env st.heap.length) st.tmps a.tmps.toList) (G:Good env st.heap w M):∀(rs:List ResultVar) (vs:List SV),(oN P st rs).ah vs→
 ∃us:List Value,(rs.mapM (VU a)).run P w= .ok us w∧F2 (aS env st.heap.length) vs us
 | [],vs,h=>by
   simp only [oN,T.ad] at h;subst h
   exact ⟨[],rfl,.nil⟩
 | r::rs,vs,h=>by
   simp only [oN] at h;rw [T.aw] at h;obtain ⟨v,h1,h⟩:=h;rw [T.aw] at h;obtain ⟨l,h2,h⟩:=h;rw [T.ad] at h;subst h;obtain ⟨u,k1,k2⟩:=QB hF G h1;obtain ⟨us,k3,k4⟩:=AU hF G rs l h2;refine ⟨u::us,?_,.cons k2 k4⟩;rw [List.mapM_cons,Sem.run_bind,k1,Result.andThen_ok,Sem.run_bind,k3];rfl
theorem Gc {env:Env} {N:Nat}:∀{vs:List SV} {us:List Value},vs.all SV.flat=true→F2 (aS env N) vs us→F2 (fi env N) vs us
 | _,_,_,.nil=>.nil
 | v::_,_,h,.cons hv ht=>by
   simp only [List.all_cons,Bool.and_eq_true] at h;refine .cons ?_ (Gc h.2 ht)
   cases v with
   | c x=>exact hv
   | agg cs=>exact hv
   | aP l=>simp [SV.flat] at h
theorem Az {st:St cod} {env:Env} {w:World} {M:Nat→Prop} {a:Act} (hF:F2 (aS env st.heap.length) st.tmps a.tmps.toList) (G:Good env st.heap w M) {fn:Func} {r:SV} (h:(yO P fn.results.toList st).ah r):
 ∃u,(results fn a.tmps).run P w= .ok u w∧aS env st.heap.length r u:=by
 unfold yO at h;rw [T.aw] at h;obtain ⟨vs,h1,h2⟩:=h;obtain ⟨us,k1,k2⟩:=AU hF G _ _ h1
 have cW:(results fn a.tmps).run P w= .ok (if h:us.toArray.size=1 then us.toArray[0] else .tuple us.toArray) w:=by
  unfold results;rw [Array.mapM_eq_mapM_toList];simp only [Sem.run_bind,Sem.run_map];change ((Sem.run P (List.mapM (VU a) fn.results.toList) w).andThen _).andThen _=_;rw [k1];rfl
 have hlen:=cq k2;refine ⟨_,cW,?_⟩;split at h2
 ·rename_i v;rw [T.ad] at h2;subst h2
  cases k2 with
  | @cons _ u _ us hu hn=>
    cases hn;simpa using hu
 ·rename_i bP;split at h2
  ·rename_i hfl;rw [T.ad] at h2;subst h2
   have:¬us.toArray.size=1:=fun e=>by
    match vs,hlen with
    | [v],_=>exact bP v rfl
    | [],hl=>simp at hl e;omega
    | _::_::_,hl=>simp at hl e;omega
   rw [dif_neg this];exact ⟨us.toArray,rfl,Gc hfl k2⟩
  ·exact h2.elim
theorem Bw {cfg:aT cod} {f:FuncId} {fn:Func} {code:Code} (hf:cfg.P.funcs[f]? =some fn) (hb:fn.body=some code) (jJ:(fn.name== "runtime.NumGoroutine")=false) (s:aH cod)
 (h:∀(args:List SV) (H:Heap cod) (r:SV) (H':Heap cod),(s args H).ah (r,H')→∀b0:aC,b0.n=H.length→
   af cfg.P b0 [.code code] {tmps:=args++List.replicate (fn.ntmps - args.length) ik,heap:=H} fun st=>(jW cfg.P fn.results.toList H.length (im H) st).ah (r,H')):dX cfg.P cod f s:=by
 refine ⟨fun args w=>by simp [callFunc,hf,hb];simpa using jJ,fun args H env w vs r H' G aJ acv=>?_⟩;intro cs
 let b:Frame:={(default:Frame) with fn:=f,kind:=.normal}
 have hlen:=cq aJ
 have pY:Frame.enter cfg.P f vs.toArray .normal=b.at {tmps:=vs.toArray++Array.replicate (fn.ntmps - vs.toArray.size) undef,defers:=[]} [.code code]:=by
  simp [Frame.enter,Frame.at,hf,hb,b]
 have acO:∀n,F2 (aS env H.length) (List.replicate n ik) (List.replicate n undef):=by
  intro n
  induction n with
  | zero=>exact .nil
  | succ n ih=>exact .cons rfl ih
 have hR:Rel {tmps:=args++List.replicate (fn.ntmps - args.length) ik,heap:=H} ⟨w,H.length,env,dG H env w,fun i=>(getObj H i).bQ=true,fun _ hk=>.inl hk⟩ {tmps:=vs.toArray++Array.replicate (fn.ntmps - vs.toArray.size) undef,defers:=[]} w:=by
  refine ⟨env,?_,rfl,G,gR.refl _ _,fun _ _ _=>rfl,Nat.le_refl _,fun k o hk ho dS=>?_⟩
  ·have:=oe aJ (acO (fn.ntmps - args.length));rw [hlen] at this ⊢;simpa using this
  ·show (getObj H k).bQ=true;rw [cK ho];exact dS
 obtain ⟨bg,a',w',todo,tD,⟨aK,hF,hd,G',eG,so,zZ,tC⟩,Ux⟩:=h args H r H' acv ⟨w,H.length,env,dG H env w,fun i=>(getObj H i).bQ=true,fun _ hk=>.inl hk⟩ rfl b cs _ w hR;simp only at so zZ tC G' eG;unfold jW at tD;rw [T.aw] at tD;obtain ⟨r0,hr0,tD⟩:=tD;obtain ⟨u,DE,Gr⟩:=Az hF G' hr0;simp only at tD;generalize hhs:((reach bg.heap 3 (dh [] (r0.hs++(im H).flatMap fun h=>(getObj bg.heap h).hs))).filter fun h=>decide (H.length≤h))=hs at tD;split at tD
 ·rename_i yi;obtain ⟨vA,kU,Dz⟩:=yi;rw [T.ad] at tD;simp only [Prod.mk.injEq] at tD;obtain ⟨rfl,rfl⟩:=tD;rw [←pY] at Ux;refine ⟨.returned u,w',{b.at a' todo with mode:=.returning},⟨u,?_⟩,Ux,rfl,rfl,hd,rfl,fn,hf,DE⟩
  let fp:Env:=fun k=>if k < H.length then aK k else aK (hs.getD (k - H.length) 0)
  have Pt:∀k∈hs,H.length≤k:=fun k hk=>by
   rw [←hhs] at hk;simpa using (List.mem_filter.1 hk).2
  have hnd:hs.Nodup:=by rw [←hhs];exact (nK _ _ _ (gy _ _ List.nodup_nil)).filter _
  have qo:∀k,(decide (k < H.length)||hs.contains k)=true→k < H.length∨k∈hs:=fun k hk=>by simpa using hk
  have hρ:∀k,k < H.length∨k∈hs→(if k < H.length then k else H.length+hs.idxOf k) < H.length+hs.length∧fp (if k < H.length then k else H.length+hs.idxOf k)=aK k:=fun k hk=>by
   split
   ·rename_i cI;refine ⟨by omega,?_⟩;show (if k < H.length then aK k else _)=aK k;rw [if_pos cI]
   ·rename_i hnl
    have oo:k∈hs:=by
     rcases hk with hk | hk
     ·omega
     ·exact hk
    have hi:=List.idxOf_lt_length_of_mem oo;refine ⟨by omega,?_⟩;show (if H.length+hs.idxOf k < H.length then _ else aK (hs.getD (H.length+hs.idxOf k - H.length) 0))=aK k;rw [if_neg (by omega),Nat.add_sub_cancel_left];simp [List.getD,List.getElem?_eq_getElem hi]
  have aaU:((List.range H.length).map (fun h=>if (im H).contains h then (getObj bg.heap h).aX (Cell.gp fun h=>if h < H.length then h else H.length+hs.idxOf h) else .dead)++hs.map fun h=>(getObj bg.heap h).aX (Cell.gp fun h=>if h < H.length then h else H.length+hs.idxOf h)).length=H.length+hs.length:=by simp
  have hcr:∀(l:List Nat),l.all (fun k=>decide (k < H.length)||hs.contains k)=true→∀c,(∀k∈c.hs,k∈l)→∀v,bZ aK bg.heap.length c v→bZ fp (H.length+hs.length) (c.gp fun h=>if h < H.length then h else H.length+hs.idxOf h) v:=fun l hl c hc v hv=>
   jC (fun k hk _=>hρ k (qo k (List.all_eq_true.1 hl k (hc k hk)))) hv
  have aL:∀k o,((List.range H.length).map (fun h=>if (im H).contains h then (getObj bg.heap h).aX (Cell.gp fun h=>if h < H.length then h else H.length+hs.idxOf h) else .dead)++hs.map fun h=>(getObj bg.heap h).aX (Cell.gp fun h=>if h < H.length then h else H.length+hs.idxOf h))[k]? =some o→Live H k→
   ∃q,o=(getObj bg.heap q).aX (Cell.gp fun h=>if h < H.length then h else H.length+hs.idxOf h)∧bg.heap[q]? =some (getObj bg.heap q)∧(getObj bg.heap q).hs.all (fun k=>decide (k < H.length)||hs.contains k)=true∧fp k=aK q∧((k < H.length∧q=k)∨(H.length≤k∧hs[k - H.length]? =some q)):=by
   intro k o ho hL;rcases Nat.lt_or_ge k H.length with hl | hl
   ·rw [List.getElem?_append_left (by simpa using hl),List.getElem?_map,List.getElem?_range hl] at ho;simp only [Option.map_some,Option.some.injEq] at ho;have oo:k∈im H:=List.mem_filter.2 ⟨List.mem_range.2 hl,hL hl⟩;rw [if_pos (by simpa using oo)] at ho;refine ⟨k,ho.symm,bD (by omega),List.all_eq_true.1 kU k oo,?_,.inl ⟨hl,rfl⟩⟩
    ·show (if k < H.length then aK k else _)=aK k;rw [if_pos hl]
   ·rw [List.getElem?_append_right (by simpa using hl),List.getElem?_map] at ho;simp only [List.length_map,List.length_range] at ho;obtain ⟨q,hq,rfl⟩:=Option.map_eq_some_iff.1 ho;have h1:=List.all_eq_true.1 Dz q (List.mem_of_getElem? hq);simp only [Bool.and_eq_true] at h1;refine ⟨q,rfl,dt (fun e=>?_),h1.1,?_,.inr ⟨hl,hq⟩⟩
    ·have:=h1.2;rw [e] at this;cases this
    ·show (if k < H.length then _ else aK (hs.getD (k - H.length) 0))=aK q;rw [if_neg (by omega)];simp [List.getD,hq]
  refine ⟨fp,rfl,fun i hi ho=>?_,?_,fun k o ho hL=>?_,fun k k' o o' c bP ho jS hL hL' hw hc cY=>?_,eG⟩
  ·show (if i < H.length then aK i else _)=env i;rw [if_pos hi];have ho:(getObj H i).bQ=false:=ho.resolve_left (by simp);exact so i hi (by simp [ho])
  ·rw [aaU];exact lE (fun c hc v hv=>hcr _ vA c hc v hv) Gr
  ·rw [aaU];obtain ⟨q,rfl,hq,hql,he,_⟩:=aL k o ho hL;rw [he];exact nG (fun c hc v hv=>hcr _ hql c hc v hv) (G'.obj q _ hq)
  ·obtain ⟨q,rfl,hq,_,he,hk⟩:=aL k o ho hL;obtain ⟨q',rfl,Rv,_,yj,tE⟩:=aL k' o' jS hL';rw [he,cu] at hc;rw [yj,cu] at cY;rw [fT] at hw;refine G'.sep q q' _ _ c (fun e=>bP ?_) hq Rv hw hc cY;rcases hk with ⟨h1,rfl⟩ | ⟨h1,h2⟩<;>rcases tE with ⟨jj,rfl⟩ | ⟨jj,oQ⟩
   ·exact e
   ·have:=Pt _ (List.mem_of_getElem? oQ);omega
   ·have:=Pt _ (List.mem_of_getElem? h2);omega
   ·subst e;have i1:k - H.length < hs.length:=(List.getElem?_eq_some_iff.1 h2).1;have:=(List.getElem?_inj i1 hnd).1 (h2.trans oQ.symm);omega
 ·exact tD.elim
theorem Sound.ait {f:FuncId} {s s':aH cod} (hI:dX P cod f s') (h:∀(args:List SV) (H:Heap cod) (r:SV) (news:Heap cod),H.all (fun o=>!o.wr)=true→(s args H).ah (r,news)→∃VE:Heap cod,VE.length=H.length∧(s' args H).ah (r,VE++news)):Sound P cod f s:=by
 refine ⟨hI.enters,fun args H env w vs r news gF G ha hg=>?_⟩;obtain ⟨VE,hol,hg'⟩:=h args H r news gF hg
 have Ut:∀(k:Nat) (o:av cod),H[k]? =some o→o.wr=false:=fun k o ho=>by
  have:=List.all_eq_true.1 gF o (List.mem_of_getElem? ho);simpa using this
 have Kf:∀b,b < w.heap.size→¬dG H env w b:=by
  rintro b hb (h | ⟨k,o,ho,hw,_⟩)
  ·omega
  ·rw [Ut k o ho] at hw;cases hw
 have hmn:∀b,dG H env w b→gT w b:=by
  rintro b (h | ⟨k,o,ho,hw,_⟩)
  ·exact h
  ·rw [Ut k o ho] at hw;cases hw
 have Gm:Good env H w (dG H env w):=⟨fun k o ho=>iz (fun b hb=>.inl hb) (G.obj k o ho),G.sep,G.sr.bG (fun _ _ _ _=>rfl) fun p _ hl _ hm=>Kf _ hl hm⟩;refine (hI.calls args H env w vs r (VE++news) Gm ha hg').mono ?_;rintro e w' ⟨v,aK,rfl,YX,hv,kV,Uu,hk⟩;have hb:=hk.below Kf
 have z6:eH H.length env aK:=fun k fx=>YX k fx (.inr <| by
  have:=Ut k _ (bD fx);cases ho:getObj H k<;>rw [ho] at this<;>first | rfl | (simp [av.wr] at this))
 have hlen:(VE++news).length=H.length+news.length:=by rw [List.length_append,hol]
 rw [hlen] at hv kV;have G0:=G.below hb.below (Nat.le_refl _)
 have vC:∀j o,news[j]? =some o→bH aK (H.length+news.length) (aK (H.length+j)) w' (dG H env w) o:=fun j o hj=>
  kV (H.length+j) o (by rw [List.getElem?_append_right (by omega),hol,Nat.add_sub_cancel_left];exact hj) (fun hl=>by omega)
 have aL:∀k o,(H++news)[k]? =some o→(k < H.length∧H[k]? =some o)∨(∃j,k=H.length+j∧news[j]? =some o):=by
  intro k o ho;rcases Nat.lt_or_ge k H.length with hl | hl
  ·rw [List.getElem?_append_left hl] at ho;exact .inl ⟨hl,ho⟩
  ·rw [List.getElem?_append_right hl] at ho;exact .inr ⟨k - H.length,by omega,ho⟩
 refine ⟨v,aK,rfl,z6,hv,⟨fun k o ho=>?_,fun k k' o o' c bP ho jS hw hc cY=>?_,G0.sr⟩,hb⟩
 ·rw [List.length_append];rcases aL k o ho with ⟨hl,h1⟩ | ⟨j,rfl,hj⟩
  ·rw [z6 k hl];exact fZ (by omega) z6 (G0.obj k o h1)
  ·exact iz hmn (vC j o hj)
 ·rcases aL k o ho with ⟨hl,h1⟩ | ⟨j,rfl,hj⟩<;>rcases aL k' o' jS with ⟨gP,jj⟩ | ⟨j',rfl,EX⟩
  ·rw [Ut k o h1] at hw;cases hw
  ·rw [Ut k o h1] at hw;cases hw
  ·rw [z6 k' gP] at cY;have:=bi (G.obj k' o' jj) cY;have Pt:w.heap.size≤c:=hmn c (cR (vC j o hj) hw hc);omega
  ·exact Uu (H.length+j) (H.length+j') o o' c bP (by rw [List.getElem?_append_right (by omega),hol,Nat.add_sub_cancel_left];exact hj) (by rw [List.getElem?_append_right (by omega),hol,Nat.add_sub_cancel_left];exact EX) (fun hl=>by omega) (fun hl=>by omega) hw hc cY
theorem O8 {rs:List ResultVar} {n:Nat} {st:St cod} {r:SV} {news:Heap cod} (h:(og P rs n st).ah (r,news)):(jW P rs n [] st).ah (r,List.replicate n .dead++news):=by
 unfold og at h;rw [T.aw] at h;obtain ⟨⟨r',X⟩,h1,h2⟩:=h;rw [T.ad] at h2;simp only [Prod.mk.injEq] at h2;obtain ⟨rfl,rfl⟩:=h2
 have hX:X=List.replicate n .dead++X.drop n:=by
  unfold jW at h1;rw [T.aw] at h1;obtain ⟨r0,_,h1⟩:=h1;simp only at h1;split at h1
  ·rw [T.ad] at h1;simp only [Prod.mk.injEq] at h1;obtain ⟨_,rfl⟩:=h1
   have hp:∀f:Nat→av cod,(List.range n).map (fun h=>if ([]:List Nat).contains h then f h else .dead)=List.replicate n .dead:=fun f=>by
    apply List.ext_getElem
    ·simp
    ·intro i h1 h2;simp
   rw [hp];congr 1;exact (List.drop_left' (by simp)).symm
  ·exact h1.elim
 rw [←hX];exact h1
theorem T2 {cfg:aT cod} {f:FuncId} {fn:Func} {code:Code} (hf:cfg.P.funcs[f]? =some fn) (hb:fn.body=some code) (jJ:(fn.name== "runtime.NumGoroutine")=false) (s:aH cod)
 (h:∀(args:List SV) (H:Heap cod) (r:SV) (news:Heap cod),H.all (fun o=>!o.wr)=true→(s args H).ah (r,news)→∀b0:aC,b0.n=H.length→
   af cfg.P b0 [.code code] {tmps:=args++List.replicate (fn.ntmps - args.length) ik,heap:=H} fun st=>(og cfg.P fn.results.toList H.length st).ah (r,news)):Sound cfg.P cod f s:=by
 refine Sound.ait (s':=fun args H=>if H.all (fun o=>!o.wr)=true then (s args H).bind fun p=>.ret (p.1,List.replicate H.length .dead++p.2) else .fail) (Bw hf hb jJ _ fun args H r H' hg b0 hn=>?_) (fun args H r news gF hg=>⟨List.replicate H.length .dead,by simp,?_⟩)
 ·split at hg
  ·rename_i gF;rw [T.aw] at hg;obtain ⟨⟨r',news⟩,h1,h2⟩:=hg;rw [T.ad] at h2;simp only [Prod.mk.injEq] at h2;obtain ⟨rfl,rfl⟩:=h2
   have acL:im H=[]:=by
    unfold im;rw [List.filter_eq_nil_iff];intro k hk hw;have hl:=List.mem_range.1 hk;have:=List.all_eq_true.1 gF _ (List.mem_of_getElem? (bD hl));rw [hw] at this;cases this
   rw [acL];exact af.mono (fun st Gq=>O8 Gq) (h args H r' news gF h1 b0 hn)
  ·exact hg.elim
 ·simp only [if_pos gF];rw [T.aw];exact ⟨_,hg,rfl⟩
end
end Sym
namespace Sym
open Go.RowKit
section
variable {cod:Nat→aO}
inductive Fin (cod:Nat→aO) where
 | fin (r:SV) (news:Heap cod)
 | cut (k:List Item) (st:St cod)
def ahe (P:Program) (rs:List ResultVar) (n:Nat):Fs cod→T (Fin cod)
 | .done st=>(og P rs n st).bind fun p=>.ret (.fin p.1 p.2)
 | .cut k st=>.ret (.cut k st)
noncomputable def aI (cfg:aT cod) (cuts:bA) (rs:List ResultVar) (n g:Nat) (k:List Item) (st:St cod):T (Fin cod):=
 sym cfg cuts n (ahe cfg.P rs n) g k st
def bF (P:Program) (b0:aC) (Q:St cod→Prop) (r:SV) (news:Heap cod):Fin cod→Prop
 | .fin r' afz=>r'=r∧afz=news
 | .cut k st=>af P b0 k st Q
def Ends (P:Program) (fn:Func) (n:Nat) (r:SV) (news:Heap cod):St cod→Prop:=fun st=>(og P fn.results.toList n st).ah (r,news)
theorem af.NM {cfg:aT cod} (hS:eL cfg) (hm:cfg.P.follows .mixedOrders=true) {cuts:bA} {b0:aC} {fn:Func} {r:SV} {news:Heap cod} (g:Nat) {k:List Item} {st:St cod} {t:T (Fin cod)}
 (ht:aI cfg cuts fn.results.toList b0.n g k st=t) (h:t.wp (bF cfg.P b0 (Ends cfg.P fn b0.n r news) r news)):af cfg.P b0 k st (Ends cfg.P fn b0.n r news):=by
 subst ht;obtain ⟨p,h1,h2⟩:=T.jP h;refine dg hS hm (p:=p) (fun q hq=>?_) g k st h1
 cases q with
 | cut k' bg=>
   have:Fin.cut k' bg=p:=hq;subst this
   exact h2
 | done bg=>
   obtain ⟨x,h3,h4⟩:=T.aw.1 (show ((og cfg.P fn.results.toList b0.n bg).bind fun x=>.ret (.fin x.1 x.2)).ah p from hq);have h5:Fin.fin x.1 x.2=p:=h4;subst h5;obtain ⟨e1,e2⟩:x.1=r∧x.2=news:=h2;have:x=(r,news):=by rw [←e1,←e2]
   rw [this] at h3;exact h3
def ay (fn:Func) (args:List SV):List SV:=args++List.replicate (fn.ntmps - args.length) ik
theorem zR {cfg:aT cod} {f:FuncId} {fn:Func} (hf:cfg.P.funcs[f]? =some fn) (hb:fn.body.isSome=true) (jJ:(fn.name== "runtime.NumGoroutine")=false) (s:aH cod)
 (h:∀(args:List SV) (H:Heap cod) (r:SV) (news:Heap cod),(s args H).ah (r,news)→∀b0:aC,b0.n=H.length→af cfg.P b0 [.code (aj fn)] ⟨ay fn args,H⟩ (Ends cfg.P fn b0.n r news)):Sound cfg.P cod f s:=by
 obtain ⟨code,yh⟩:=Option.isSome_iff_exists.1 hb;have hcd:aj fn=code:=by simp [aj,yh]
 refine T2 hf yh jJ _ fun args H r news gF hg b0 hn=>?_;have:=h args H r news hg b0 hn;rw [hcd,hn] at this;exact this
def ahd (P:Program) (rs:List ResultVar) (H:Heap cod):Fs cod→T (Fin cod)
 | .done st=>(jW P rs H.length (im H) st).bind fun p=>.ret (.fin p.1 p.2)
 | .cut k st=>.ret (.cut k st)
noncomputable def mD (cfg:aT cod) (cuts:bA) (rs:List ResultVar) (H:Heap cod) (g:Nat) (k:List Item) (st:St cod):T (Fin cod):=
 sym cfg cuts H.length (ahd cfg.P rs H) g k st
def eM (P:Program) (fn:Func) (H:Heap cod) (r:SV) (H':Heap cod):St cod→Prop:=fun st=>(jW P fn.results.toList H.length (im H) st).ah (r,H')
theorem af.Zx {cfg:aT cod} (hS:eL cfg) (hm:cfg.P.follows .mixedOrders=true) {cuts:bA} {b0:aC} {fn:Func} {H:Heap cod} {r:SV} {H':Heap cod} (hn:b0.n=H.length) (g:Nat) {k:List Item} {st:St cod} {t:T (Fin cod)}
 (ht:mD cfg cuts fn.results.toList H g k st=t) (h:t.wp (bF cfg.P b0 (eM cfg.P fn H r H') r H')):af cfg.P b0 k st (eM cfg.P fn H r H'):=by
 subst ht;obtain ⟨p,h1,h2⟩:=T.jP h;unfold mD at h1;rw [←hn] at h1;refine dg hS hm (p:=p) (fun q hq=>?_) g k st h1
 cases q with
 | cut k' bg=>
   have:Fin.cut k' bg=p:=hq;subst this
   exact h2
 | done bg=>
   obtain ⟨x,h3,h4⟩:=T.aw.1 (show ((jW cfg.P fn.results.toList H.length (im H) bg).bind fun x=>.ret (.fin x.1 x.2)).ah p from hq);have h5:Fin.fin x.1 x.2=p:=h4;subst h5;obtain ⟨e1,e2⟩:x.1=r∧x.2=H':=h2;have:x=(r,H'):=by rw [←e1,←e2]
   rw [this] at h3;exact h3
theorem gg {cfg:aT cod} {f:FuncId} {fn:Func} (hf:cfg.P.funcs[f]? =some fn) (hb:fn.body.isSome=true) (jJ:(fn.name== "runtime.NumGoroutine")=false) (s:aH cod)
 (h:∀(args:List SV) (H:Heap cod) (r:SV) (H':Heap cod),(s args H).ah (r,H')→∀b0:aC,b0.n=H.length→af cfg.P b0 [.code (aj fn)] ⟨ay fn args,H⟩ (eM cfg.P fn H r H')):dX cfg.P cod f s:=by
 obtain ⟨code,yh⟩:=Option.isSome_iff_exists.1 hb;have hcd:aj fn=code:=by simp [aj,yh]
 refine Bw hf yh jJ _ fun args H r H' hg b0 hn=>?_;have:=h args H r H' hg b0 hn;rw [hcd] at this;exact this
end
end Sym
end Go.Proofs.YtcjagpfbhnmggaaGreatDoor
