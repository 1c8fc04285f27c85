/- Parts of the proof. -/
import Derived.Test.YtcjagpfbhnmggaaGreatDoorBd8
namespace Go.Proofs.YtcjagpfbhnmggaaGreatDoor
namespace Sym
open Go.RowKit
section
variable {cod:Nat→aO}
def kindOf (cfg:aT cod) (o:Oper):Nat:=
 match o.op with
 | .move x | .assign x=>if fe x then 2 else 0
 | .pick _ _ _ | .build _ _ | .nilCheck _ | .binOp _ _ _ _ _ | .unOp _ _ _ | .fieldAddr _ _ _ | .field _ _ _ | .index _ _ _ | .extract _ _ | .makeFunc _ _ _=>0
 | .load _ _ | .slice _ _ _ _ _ | .indexAddr _ _ _=>1
 | .alloc _ | .box _ _=>if (o.dst.bind cfg.place).isSome then 3 else 2
 | .buildSlice _ _ _ | .makeSlice _ _ _=>2
 | .store _ _ _=>3
 | .convert s d _=>if eD cfg.P s d=0 then 0 else if eD cfg.P s d=2 then 1 else 4
 | .call {callee:=.builtin .len,.. } | .call {callee:=.builtin .max,.. } | .call {callee:=.builtin .min,.. }=>0
 | .call {callee:=.builtin .copy,.. }=>3
 | .call {callee:=.value (.func g),.. }=>if jY cfg.P g=true then 0 else if (cfg.lB g).isSome then (if cfg.quiet g then 1 else 2) else 4
 | _=>4
def kq (a b:Nat):Bool:=(a==0&&decide (b≤3))||(b==0&&decide (a≤3))||(a==1&&(b==1||b==2))
theorem Qm (cfg:aT cod) {tm RE:List SV} (H:Heap cod) (o:Oper) (h:∀x∈o.op.operands.toList,cD tm x=cD RE x):iB cfg tm H o=iB cfg RE H o:=by
 have hm:∀(l:List (Nat×Operand)),(∀p∈l,cD tm p.2=cD RE p.2)→l.map (fun p=>(p.1,cD tm p.2))=l.map (fun p=>(p.1,cD RE p.2)):=fun l hl=>List.map_congr_left fun p hp=>by rw [hl p hp]
 have ha:∀(l:List Operand),(∀p∈l,cD tm p=cD RE p)→l.map (cD tm)=l.map (cD RE):=fun l hl=>List.map_congr_left fun p hp=>hl p hp;unfold iB
 cases ho:o.op with
 | build t parts=>
   have:=hm parts.toList (fun p hp=>h p.2 (by rw [ho];simp only [Op.operands];exact List.mem_map.2 ⟨p,hp,rfl⟩))
   simp only [this]
 | buildSlice t n parts=>
   have:=hm parts.toList (fun p hp=>h p.2 (by rw [ho];simp only [Op.operands];exact List.mem_map.2 ⟨p,hp,rfl⟩))
   simp only [this]
 | slice t x lo hi mx=>
   have hx:=h x (by rw [ho];simp [Op.operands])
   have YU:lo.map (cD tm)=lo.map (cD RE):=by cases lo with
    | none=>rfl
    | some y=>simp only [Option.map_some,Option.some.injEq];exact h y (by rw [ho];simp [Op.operands])
   have hhi:hi.map (cD tm)=hi.map (cD RE):=by cases hi with
    | none=>rfl
    | some y=>simp only [Option.map_some,Option.some.injEq];exact h y (by rw [ho];simp [Op.operands])
   have hmx:mx.map (cD tm)=mx.map (cD RE):=by cases mx with
    | none=>rfl
    | some y=>simp only [Option.map_some,Option.some.injEq];exact h y (by rw [ho];simp [Op.operands])
   simp only [hx,YU,hhi,hmx]
 | makeFunc fn first dC=>
   have:=ha dC.toList (fun p hp=>h p (by rw [ho];simp only [Op.operands,Array.toList_append];exact List.mem_append_right _ hp))
   cases fn<;>simp only [this]
 | call c=>
   obtain ⟨callee,args,ts⟩:=c;have:=ha args.toList (fun p hp=>h p (by rw [ho];simp only [Op.operands,Call.operands,Array.toList_append];exact List.mem_append_right _ hp))
   cases callee with
   | value f=>
     have hf:=h f (by rw [ho];simp [Op.operands,Call.operands])
     simp only [this,hf]
   | builtin b=>simp only [this]
   | invoke r m=>rfl
 | move x=>have hx:=h x (by rw [ho];simp [Op.operands]);simp only [hx]
 | assign x=>have hx:=h x (by rw [ho];simp [Op.operands]);simp only [hx]
 | pick c a b=>
   have hc:=h c (by rw [ho];simp [Op.operands]);have ha:=h a (by rw [ho];simp [Op.operands]);have hb:=h b (by rw [ho];simp [Op.operands])
   simp only [hc,ha,hb]
 | box e x=>have hx:=h x (by rw [ho];simp [Op.operands]);simp only [hx]
 | load t x=>have hx:=h x (by rw [ho];simp [Op.operands]);simp only [hx]
 | store t x y=>
   have hx:=h x (by rw [ho];simp [Op.operands]);have hy:=h y (by rw [ho];simp [Op.operands])
   simp only [hx,hy]
 | nilCheck x=>have hx:=h x (by rw [ho];simp [Op.operands]);simp only [hx]
 | binOp op t x y ty=>
   have hx:=h x (by rw [ho];simp [Op.operands]);have hy:=h y (by rw [ho];simp [Op.operands])
   simp only [hx,hy]
 | unOp op t x=>have hx:=h x (by rw [ho];simp [Op.operands]);simp only [hx]
 | convert s d x=>have hx:=h x (by rw [ho];simp [Op.operands]);simp only [hx]
 | fieldAddr t x f=>have hx:=h x (by rw [ho];simp [Op.operands]);simp only [hx]
 | field t x f=>have hx:=h x (by rw [ho];simp [Op.operands]);simp only [hx]
 | indexAddr t x y=>
   have hx:=h x (by rw [ho];simp [Op.operands]);have hy:=h y (by rw [ho];simp [Op.operands])
   simp only [hx,hy]
 | index t x y=>
   have hx:=h x (by rw [ho];simp [Op.operands]);have hy:=h y (by rw [ho];simp [Op.operands])
   simp only [hx,hy]
 | extract t i=>have hx:=h t (by rw [ho];simp [Op.operands]);simp only [hx]
 | makeSlice t n c=>
   have hx:=h n (by rw [ho];simp [Op.operands]);have hy:=h c (by rw [ho];simp [Op.operands])
   simp only [hx,hy]
 | _=>rfl
theorem S7 {cfg:aT cod} {H:Heap cod} {b:Builtin} {ts:Array TypeId} {args:List SV} {out:Out cod} (hb:b= .len∨b= .max∨b= .min) (h:(dc cfg H b ts args).ah out):
 out.H=H∧out.kill=[]∧∀H',(dc cfg H' b ts args).ah {v:=out.v,H:=H'}:=by
 have ret:∀{v:SV},(T.ret ({v:=v,H:=H}:Out cod)).ah out→out.H=H∧out.kill=[]∧∀H',(T.ret ({v:=v,H:=H'}:Out cod)).ah {v:=out.v,H:=H'}:=fun hh=>by
  rw [T.ad] at hh;subst hh;exact ⟨rfl,rfl,fun _=>rfl⟩
 rcases hb with rfl | rfl | rfl
 ·rcases args with _ | ⟨x,_ | ⟨y,l⟩⟩
  ·exact h.elim
  ·simp only [dc] at h ⊢;split at h
   ·exact ret h
   ·exact ret h
   ·split at h
    ·exact ret h
    ·split at h
     ·exact ret h
     ·exact h.elim
   ·exact h.elim
  ·exact h.elim
 ·rcases args with _ | ⟨x,l⟩
  ·exact h.elim
  ·cases x with
   | c x=>
     cases x with
     | int k a=>
       simp only [dc] at h ⊢;split at h
       ·exact ret h
       ·exact h.elim
     | _=>exact h.elim
   | _=>exact h.elim
 ·rcases args with _ | ⟨x,l⟩
  ·exact h.elim
  ·cases x with
   | c x=>
     cases x with
     | int k a=>
       simp only [dc] at h ⊢;split at h
       ·exact ret h
       ·exact h.elim
     | _=>exact h.elim
   | _=>exact h.elim
theorem Nw {cfg:aT cod} {tm:List SV} {H:Heap cod} {o:Oper} {out:Out cod} (hk:kindOf cfg o=0) (h:(iB cfg tm H o).ah out):out.H=H∧out.kill=[]∧∀H',(iB cfg tm H' o).ah {v:=out.v,H:=H'}:=by
 have bG:∀{t:T SV},(t.bind fun v=>T.ret ({v:=v,H:=H}:Out cod)).ah out→out.H=H∧out.kill=[]∧∀H',(t.bind fun v=>T.ret ({v:=v,H:=H'}:Out cod)).ah {v:=out.v,H:=H'}:=fun {t} hh=>by
  rw [T.aw] at hh;obtain ⟨v,h1,h2⟩:=hh;rw [T.ad] at h2;subst h2;exact ⟨rfl,rfl,fun H'=>T.aw.2 ⟨v,h1,rfl⟩⟩
 have ret:∀{v:SV},(T.ret ({v:=v,H:=H}:Out cod)).ah out→out.H=H∧out.kill=[]∧∀H',(T.ret ({v:=v,H:=H'}:Out cod)).ah {v:=out.v,H:=H'}:=fun hh=>by
  rw [T.ad] at hh;subst hh;exact ⟨rfl,rfl,fun _=>rfl⟩
 unfold iB at h ⊢;unfold kindOf at hk
 cases ho:o.op with
 | move x=>
   simp only [ho] at hk h ⊢;have hn:fe x=false:=by cases hx:fe x<;>simp [hx] at hk;rfl
   simp only [hn] at h ⊢
   exact ret h
 | assign x=>
   simp only [ho] at hk h ⊢;have hn:fe x=false:=by cases hx:fe x<;>simp [hx] at hk;rfl
   simp only [hn] at h ⊢
   exact ret h
 | pick c a b=>
   simp only [ho] at h ⊢;split at h
   ·rename_i b' e;rw [T.fY] at h
    cases b' with
    | true=>
      simp only [if_true] at h;obtain ⟨h1,h2,h3⟩:=ret h
      exact ⟨h1,h2,fun H'=>by rw [T.fY];simp only [if_true];exact h3 H'⟩
    | false=>
      simp only [Bool.false_eq_true,if_false] at h;obtain ⟨h1,h2,h3⟩:=ret h;exact ⟨h1,h2,fun H'=>by rw [T.fY];simp only [Bool.false_eq_true,if_false];exact h3 H'⟩
   ·exact h.elim
 | build t parts=>
   simp only [ho] at h ⊢;split at h
   ·exact ret h
   ·exact h.elim
 | nilCheck x=>
   simp only [ho] at h ⊢;split at h
   ·exact ret h
   ·exact ret h
   ·exact h.elim
 | binOp op t x y ty=>simp only [ho] at h ⊢;exact bG h
 | unOp op t x=>simp only [ho] at h ⊢;exact bG h
 | convert s d x=>
   have hb:eD cfg.P s d=0:=by
    simp only [ho] at hk;split at hk
    ·assumption
    ·split at hk<;>omega
   simp only [ho,hb] at h ⊢
   exact bG h
 | fieldAddr t x f=>
   simp only [ho] at h ⊢;split at h
   ·split at h
    ·split at h
     ·exact h.elim
     ·rename_i hc;obtain ⟨h1,h2,h3⟩:=ret h;exact ⟨h1,h2,fun H'=>by rw [if_neg hc];exact h3 H'⟩
    ·exact h.elim
   ·exact h.elim
 | field t x f=>
   simp only [ho] at h ⊢;split at h
   ·split at h
    ·split at h
     ·rename_i hc;obtain ⟨h1,h2,h3⟩:=bG h;exact ⟨h1,h2,fun H'=>by rw [if_pos hc];exact h3 H'⟩
     ·exact h.elim
    ·exact h.elim
   ·exact h.elim
 | index t x ix=>simp only [ho] at h ⊢;exact bG h
 | extract t i=>
   simp only [ho] at h ⊢;split at h
   ·split at h
    ·exact ret h
    ·exact h.elim
   ·exact h.elim
 | makeFunc fn first dC=>
   cases fn with
   | func f=>
     simp only [ho] at h ⊢;split at h
     ·rename_i hc;split at h
      ·obtain ⟨h1,h2,h3⟩:=ret h;exact ⟨h1,h2,fun H'=>by rw [if_pos hc];exact h3 H'⟩
      ·exact h.elim
     ·exact h.elim
   | _=>simp only [ho] at h;exact h.elim
 | call c=>
   obtain ⟨callee,args,ts⟩:=c
   cases callee with
   | value f=>
     cases f with
     | func g=>
       simp only [ho] at hk h ⊢;by_cases hx:jY cfg.P g=true
       ·simp only [cD,hx,if_true] at h ⊢;exact bG h
       ·rw [if_neg hx] at hk
        split at hk<;>first | omega | (split at hk<;>omega)
     | _=>simp only [ho] at hk;omega
   | invoke r m=>simp only [ho] at hk;omega
   | builtin b=>
     have hb:b= .len∨b= .max∨b= .min:=by
      simp only [ho] at hk;split at hk<;>simp_all
     simp only [ho] at h ⊢
     exact S7 hb h
 | _=>simp only [ho] at hk;first | omega | (split at hk<;>omega)
theorem fP {H:Heap cod} {h:Nat} (X:Heap cod) (hd:getObj H h≠.dead):getObj (H++X) h=getObj H h:=by
 have hs:=dt hd;have hl:h < H.length:=(List.getElem?_eq_some_iff.1 hs).1;unfold getObj;simp [List.getD,List.getElem?_append_left hl]
theorem om {H:Heap cod} {h:Nat} (X:Heap cod) (hl:h < H.length):getObj (H++X) h=getObj H h:=by
 unfold getObj;simp [List.getD,List.getElem?_append_left hl]
theorem lK:∀(l acc:List Nat),(∀x∈acc,x∈dh acc l)∧(∀x∈l,x∈dh acc l)
 | [],acc=>⟨fun x hx=>hx,by simp⟩
 | h::l,acc=>by
   unfold dh;split
   ·rename_i hc;obtain ⟨h1,h2⟩:=lK l acc;refine ⟨h1,fun x hx=>?_⟩;rcases List.mem_cons.1 hx with rfl | hx
    ·exact h1 _ (by simpa using hc)
    ·exact h2 x hx
   ·obtain ⟨h1,h2⟩:=lK l (acc++[h]);refine ⟨fun x hx=>h1 x (List.mem_append_left _ hx),fun x hx=>?_⟩;rcases List.mem_cons.1 hx with rfl | hx
    ·exact h1 _ (List.mem_append_right _ (List.mem_singleton_self _))
    ·exact h2 x hx
theorem BX (H:Heap cod):∀(d:Nat) (l:List Nat),∀x∈l,x∈reach H d l
 | 0,_,_,hx=>hx
 | d+1,l,x,hx=>BX H d _ x ((lK _ l).1 x hx)
theorem BW (H X:Heap cod):∀(d:Nat) (l:List Nat),(∀x∈reach H d l,x < H.length)→reach (H++X) d l=reach H d l
 | 0,l,_=>rfl
 | d+1,l,h=>by
   unfold reach at h ⊢;have hl:∀x∈l,x < H.length:=fun x hx=>h x (BX H d _ x ((lK _ l).1 x hx))
   have e:l.flatMap (fun h=>(getObj (H++X) h).hs)=l.flatMap (fun h=>(getObj H h).hs):=by
    rw [List.flatMap_def,List.flatMap_def];congr 1;exact List.map_congr_left fun x hx=>by rw [om X (hl x hx)]
   rw [e];exact BW H X d _ h
theorem oA {f g:Nat→Nat} {c:Cell} (h:∀k∈c.hs,f k=g k):c.gp f=c.gp g:=by
 cases c<;>simp only [Cell.gp,Cell.hs] at* <;>try rfl
 case ptr k i o=>rw [h k (by simp)]
 case ai k i n t=>rw [h k (by simp)]
 case own k n=>rw [h k (by simp)]
 case fn f0 dC=>
  congr 1;exact List.map_congr_left fun c hc=>by rw [h c.1 (List.mem_map.2 ⟨c,hc,rfl⟩)]
theorem yy {f g:Nat→Nat} {x:SV} (h:∀k∈x.hs,f k=g k):x.aX (Cell.gp f)=x.aX (Cell.gp g):=by
 cases x with
 | c x=>simp only [SV.aX];rw [oA h]
 | agg cs=>
   simp only [SV.aX];congr 1
   exact List.map_congr_left fun c hc=>oA fun k hk=>h k (List.mem_flatMap.2 ⟨c,hc,hk⟩)
 | aP vs=>
   simp only [SV.aX];congr 1;refine List.map_congr_left fun v hv=>?_
   cases v with
   | c x=>simp only;rw [oA fun k hk=>h k (List.mem_flatMap.2 ⟨_,hv,hk⟩)]
   | agg cs=>
     simp only;congr 1
     exact List.map_congr_left fun c hc=>oA fun k hk=>h k (List.mem_flatMap.2 ⟨_,hv,List.mem_flatMap.2 ⟨c,hc,hk⟩⟩)
   | aP l=>rfl
theorem xt {cfg:aT cod} {H:Heap cod} {g:FuncId} {s:aH cod} {args:List SV} {out:Out cod} (h:(qK cfg H g s args).ah out):
 out.kill=[]∧(∃X,out.H=H++X)∧(cfg.quiet g=true→out.H=H∧∀X,(qK cfg (H++X) g s args).ah {v:=out.v,H:=H++X}):=by
 unfold qK at h ⊢
 ·simp only at h ⊢;generalize hhs:reach H 3 (dh [] (args.flatMap SV.hs))=hs at h;split at h
  ·rename_i hc;obtain ⟨vA,kU⟩:=hc;rw [T.aw] at h;obtain ⟨⟨r,news⟩,hr,h⟩:=h;simp only at h;split at h
   ·rename_i Ns;obtain ⟨Ry,hw2,hw3⟩:=Ns;rw [T.ad] at h;subst h;refine ⟨rfl,⟨_,rfl⟩,fun hq=>?_⟩;have hn:=hw3 hq;subst hn;refine ⟨by simp,fun X=>?_⟩
    have cI:∀k∈hs,k < H.length:=fun k hk=>by
     have:=List.all_eq_true.1 kU k hk;simp only [Bool.and_eq_true,decide_eq_true_eq] at this;exact this.1
    have YZ:reach (H++X) 3 (dh [] (args.flatMap SV.hs))=hs:=by
     rw [BW H X 3 _ (by rw [hhs];exact cI),hhs]
    rw [YZ]
    have ahu:hs.all (fun h=>decide (h < (H++X).length)&&(getObj (H++X) h).hs.all hs.contains)=true:=by
     rw [List.all_eq_true] at kU ⊢;intro k hk;have h1:=kU k hk;rw [om X (cI k hk)];simp only [Bool.and_eq_true,decide_eq_true_eq,List.length_append] at h1 ⊢;exact ⟨by omega,h1.2⟩
    rw [if_pos ⟨vA,ahu⟩,T.aw];have ahP:(hs.map fun h=>(getObj (H++X) h).ro fun h=>hs.idxOf h)=(hs.map fun h=>(getObj H h).ro fun h=>hs.idxOf h):=List.map_congr_left fun k hk=>by rw [om X (cI k hk)]
    rw [ahP];refine ⟨(r,[]),hr,?_⟩;rw [if_pos ⟨Ry,hw2,hw3⟩,T.ad]
    have ah8:r.aX (Cell.gp fun i=>if i < hs.length then hs.getD i 0 else (H++X).length+(i - hs.length))=r.aX (Cell.gp fun i=>if i < hs.length then hs.getD i 0 else H.length+(i - hs.length)):=
     yy fun k hk=>by
      have:=List.all_eq_true.1 hw2 k hk;simp only [decide_eq_true_eq,List.length_nil,Nat.add_zero] at this;rw [if_pos this,if_pos this]
    simp only [ah8,List.map_nil,List.append_nil]
   ·exact h.elim
  ·exact h.elim
theorem lM {cfg:aT cod} {H:Heap cod} {g:FuncId} {args:List SV} {out:Out cod} (hs:(cfg.lB g).isSome=true) (h:(mh cfg H g args).ah out):
 out.kill=[]∧(∃X,out.H=H++X)∧(cfg.quiet g=true→out.H=H∧∀X,(mh cfg (H++X) g args).ah {v:=out.v,H:=H++X}):=by
 obtain ⟨s,hs⟩:=Option.isSome_iff_exists.1 hs;unfold mh at h ⊢;simp only [hs] at h ⊢;exact xt h
theorem BI {H:Heap cod} {h i o n:Nat} {cs:List Cell} (X:Heap cod) (hl:(fH H h i o n).ah cs):(fH (H++X) h i o n).ah cs:=by
 have hd:getObj H h≠.dead:=fun e=>by unfold fH at hl;rw [e] at hl;exact hl.elim
 unfold fH at hl ⊢;rw [fP X hd];exact hl
theorem yq {P:Program} {H:Heap cod} {t:TypeId} {x ix r:SV} (X:Heap cod) (h:(dw P H t x ix).ah r):(dw P (H++X) t x ix).ah r:=by
 unfold dw at h ⊢;split at h
 ·split at h
  ·rename_i hh i o;have hd:getObj H hh≠.dead:=fun e=>by rw [e] at h;exact h.elim
   rw [fP X hd];exact h
  ·exact h
  ·exact h.elim
 ·split at h
  ·rename_i hh i n tt hs;have hd:getObj H hh≠.dead:=fun e=>by rw [e] at h;exact h.elim
   rw [fP X hd];exact h
  ·exact h.elim
 ·exact h.elim
theorem Md {P:Program} {H:Heap cod} {t:TypeId} {x r:SV} {lo hi mx:Option SV} (X:Heap cod) (h:(jM P H t x lo hi mx).ah r):(jM P (H++X) t x lo hi mx).ah r:=by
 unfold jM at h ⊢;split at h
 ·split at h
  ·unfold ug at h ⊢;split at h
   ·rename_i hh i;split at h
    ·rename_i hc;have hd:getObj H hh≠.dead:=fun e=>by rw [e] at hc;cases hc.1
     simp only [fP X hd,if_pos hc];exact h
    ·exact h.elim
   ·exact h.elim
  ·exact h.elim
 ·exact h
 ·split at h
  ·exact h
  ·rename_i hh i n tt hs;split at h
   ·rename_i he;have hd:getObj H hh≠.dead:=fun e=>by rw [e] at he;cases he
    rw [fP X hd,if_pos he];exact h
   ·exact h.elim
 ·exact h.elim
theorem KP {u:Nat} {H:Heap cod} {x:SV} {l:List (cod u).α} (X:Heap cod) (h:(rowsOf u H x).ah l):(rowsOf u (H++X) x).ah l:=by
 unfold rowsOf at h ⊢;split at h
 ·rename_i hh n;have hd:getObj H hh≠.dead:=fun e=>by rw [e] at h;exact h.elim
  simp only [fP X hd];exact h
 ·rename_i hh i n t;have hd:getObj H hh≠.dead:=fun e=>by rw [e] at h;exact h.elim
  simp only [fP X hd];exact h
 ·exact h.elim
theorem DT {cfg:aT cod} {H:Heap cod} {s:TypeId} {x r:SV} (X:Heap cod) (h:(jL cfg H s x).ah r):(jL cfg (H++X) s x).ah r:=by
 unfold jL at h ⊢;split at h
 ·split at h
  ·rw [T.aw] at h ⊢;obtain ⟨l,h1,h2⟩:=h;exact ⟨l,KP X h1,h2⟩
  ·exact h.elim
 ·exact h.elim
theorem Nx {cfg:aT cod} {tm:List SV} {H:Heap cod} {o:Oper} {out:Out cod} (hk:kindOf cfg o=1) (h:(iB cfg tm H o).ah out):out.H=H∧out.kill=[]∧∀X,(iB cfg tm (H++X) o).ah {v:=out.v,H:=H++X}:=by
 have bG:∀{t:T SV} {t':Heap cod→T SV},(∀X r,t.ah r→(t' X).ah r)→(t.bind fun v=>T.ret ({v:=v,H:=H}:Out cod)).ah out→out.H=H∧out.kill=[]∧∀X,((t' X).bind fun v=>T.ret ({v:=v,H:=H++X}:Out cod)).ah {v:=out.v,H:=H++X}:=fun {t} {t'} ht hh=>by
  rw [T.aw] at hh;obtain ⟨v,h1,h2⟩:=hh;rw [T.ad] at h2;subst h2;exact ⟨rfl,rfl,fun X=>T.aw.2 ⟨v,ht X v h1,rfl⟩⟩
 unfold iB at h ⊢;unfold kindOf at hk
 cases ho:o.op with
 | load t x=>
   simp only [ho] at h ⊢;split at h
   ·rename_i k i off e;split at h
    ·rename_i Dx;simp only [Dx,if_true]
     exact bG (t':=fun X=>(fH (H++X) k i off (cfg.P.cellsOf t)).bind fun cs=>.ret (.agg cs)) (fun X r hr=>by
      rw [T.aw] at hr ⊢;obtain ⟨cs,h1,h2⟩:=hr;exact ⟨cs,BI X h1,h2⟩) h
    ·rename_i Dx;split at h
     ·rename_i hu;simp only [Dx,hu,if_true,Bool.false_eq_true,if_false]
      exact bG (t':=fun X=>(fH (H++X) k i off 1).bind fun cs=>match cs with
       | [c]=>.ret (.c c)
       | _=>.fail) (fun X r hr=>by
       rw [T.aw] at hr ⊢;obtain ⟨cs,h1,h2⟩:=hr;exact ⟨cs,BI X h1,h2⟩) h
     ·exact h.elim
   ·split at h
    ·rename_i hc;simp only [if_pos hc];exact bG (t':=fun _=>Ra _) (fun X r hr=>hr) h
    ·exact h.elim
   ·exact h.elim
 | slice t x lo hi mx=>
   simp only [ho] at h ⊢
   exact bG (fun X r hr=>Md X hr) h
 | indexAddr t x ix=>
   simp only [ho] at h ⊢
   exact bG (fun X r hr=>yq X hr) h
 | convert s d x=>
   have hb:eD cfg.P s d=2:=by
    simp only [ho] at hk;split at hk
    ·omega
    ·split at hk
     ·assumption
     ·omega
   simp only [ho,hb] at h ⊢
   exact bG (fun X r hr=>DT X hr) h
 | call c=>
   obtain ⟨callee,args,ts⟩:=c
   cases callee with
   | value f=>
     cases f with
     | func g=>
       simp only [ho] at hk h ⊢;by_cases vD:jY cfg.P g=true
       ·rw [if_pos vD] at hk;omega
       rw [if_neg vD] at hk;have No:(cfg.lB g).isSome=true:=by cases hx:(cfg.lB g).isSome<;>simp [hx] at hk;rfl
       have hq:cfg.quiet g=true:=by cases hx:cfg.quiet g<;>simp [hx,No] at hk;rfl
       simp only [cD,if_neg vD] at h ⊢;obtain ⟨h1,h2,h3⟩:=lM No h;obtain ⟨h4,h5⟩:=h3 hq
       exact ⟨h4,h1,h5⟩
     | _=>simp only [ho] at hk;omega
   | builtin b=>simp only [ho] at hk;cases b<;>simp at hk
   | invoke r m=>simp only [ho] at hk;omega
 | _=>simp only [ho] at hk;first | omega | (split at hk<;>omega)
theorem Kn {cfg:aT cod} {tm:List SV} {H:Heap cod} {o:Oper} {out:Out cod} (hk:kindOf cfg o≤3) (h:(iB cfg tm H o).ah out):out.kill=[]:=by
 have h4:kindOf cfg o=0∨kindOf cfg o=1∨2≤kindOf cfg o:=by omega
 rcases h4 with h0 | h1 | h2
 ·exact (Nw h0 h).2.1
 ·exact (Nx h1 h).2.1
 unfold iB at h;unfold kindOf at hk h2
 have kZ:∀{o:av cod} {v:SV},(gh H o v).ah out→out.kill=[]:=fun hh=>by
  rw [gh,T.ad] at hh;subst hh;rfl
 have mk_:∀{ob:av cod},(iy cfg o.dst H ob).ah out→out.kill=[]:=fun hh=>by
  unfold iy at hh;split at hh
  ·exact kZ hh
  ·split at hh
   ·rw [T.ad] at hh;subst hh;rfl
   ·exact hh.elim
 cases ho:o.op with
 | move x=>
   simp only [ho] at h;split at h
   ·split at h
    ·exact kZ h
    ·rw [T.ad] at h;subst h;rfl
   ·rw [T.ad] at h;subst h;rfl
 | assign x=>
   simp only [ho] at h;split at h
   ·split at h
    ·exact kZ h
    ·rw [T.ad] at h;subst h;rfl
   ·rw [T.ad] at h;subst h;rfl
 | alloc e=>
   simp only [ho] at h;split at h
   ·exact mk_ h
   ·exact h.elim
 | box e x=>
   simp only [ho] at h;split at h
   ·exact mk_ h
   ·exact h.elim
 | buildSlice t n parts=>
   simp only [ho] at h;split at h
   ·split at h
    ·split at h
     ·split at h
      ·exact kZ h
      ·exact h.elim
     ·exact h.elim
    ·split at h
     ·exact kZ h
     ·exact h.elim
    ·exact h.elim
   ·exact h.elim
 | makeSlice t n c=>
   simp only [ho] at h;split at h
   ·split at h
    ·split at h
     ·rw [T.ak] at h;exact kZ h.2
     ·exact h.elim
    ·exact h.elim
   ·exact h.elim
 | store t x y=>
   simp only [ho] at h;split at h
   ·split at h
    ·rw [T.aw] at h;obtain ⟨H',_,hr⟩:=h;rw [T.ad] at hr;subst hr;rfl
    ·exact h.elim
   ·exact h.elim
 | call c=>
   obtain ⟨callee,args,ts⟩:=c
   cases callee with
   | value f=>
     cases f with
     | func g=>
       simp only [ho,cD] at hk h h2;by_cases vD:jY cfg.P g=true
       ·rw [if_pos vD] at h2;omega
       rw [if_neg vD] at hk h;have No:(cfg.lB g).isSome=true:=by cases hx:(cfg.lB g).isSome<;>simp [hx] at hk;rfl
       exact (lM No h).1
     | _=>simp only [ho] at hk;omega
   | builtin b=>
     by_cases hb:b= .copy
     ·subst hb;simp only [ho] at h;generalize args.toList.map (cD tm)=l at h;rcases l with _ | ⟨x,_ | ⟨y,_ | ⟨z,l⟩⟩⟩
      ·exact h.elim
      ·exact h.elim
      ·simp only [dc] at h;split at h
       ·unfold AY at h;split at h
        ·split at h
         ·split at h
          ·rw [T.aw] at h;obtain ⟨l',_,h⟩:=h;rw [T.ak,T.ad] at h;obtain ⟨_,rfl⟩:=h;rfl
          ·exact h.elim
         ·exact h.elim
        ·exact h.elim
       ·exact h.elim
      ·exact h.elim
     ·simp only [ho] at hk h2
      cases b<;>simp at hk h2 hb
   | invoke r m=>simp only [ho] at hk;omega
 | convert s d x=>
   simp only [ho] at hk h2;split at hk
   ·simp_all
   ·split at hk
    ·simp_all
    ·omega
 | _=>simp only [ho] at hk h2;omega
theorem aa4 {cfg:aT cod} {tm:List SV} {H:Heap cod} {o:Oper} {out:Out cod} (hk:kindOf cfg o=2) (h:(iB cfg tm H o).ah out):∃X,out.H=H++X:=by
 unfold iB at h;unfold kindOf at hk
 have kZ:∀{o:av cod} {v:SV},(gh H o v).ah out→∃X,out.H=H++X:=fun hh=>by
  rw [gh,T.ad] at hh;subst hh;exact ⟨_,rfl⟩
 have mk_:∀{ob:av cod},(if (o.dst.bind cfg.place).isSome=true then 3 else 2)=2→(iy cfg o.dst H ob).ah out→∃X,out.H=H++X:=fun hk hh=>by
  unfold iy at hh;split at hh
  ·exact kZ hh
  ·rename_i k hd;rw [hd] at hk;cases hk
 have same:∀{v:SV},(T.ret ({v:=v,H:=H}:Out cod)).ah out→∃X,out.H=H++X:=fun hh=>by
  rw [T.ad] at hh;subst hh;exact ⟨[],by simp⟩
 cases ho:o.op with
 | move x=>
   simp only [ho] at h;split at h
   ·split at h
    ·exact kZ h
    ·exact same h
   ·exact same h
 | assign x=>
   simp only [ho] at h;split at h
   ·split at h
    ·exact kZ h
    ·exact same h
   ·exact same h
 | alloc e=>
   simp only [ho] at h hk;split at h
   ·exact mk_ hk h
   ·exact h.elim
 | box e x=>
   simp only [ho] at h hk;split at h
   ·exact mk_ hk h
   ·exact h.elim
 | buildSlice t n parts=>
   simp only [ho] at h;split at h
   ·split at h
    ·split at h
     ·split at h
      ·exact kZ h
      ·exact h.elim
     ·exact h.elim
    ·split at h
     ·exact kZ h
     ·exact h.elim
    ·exact h.elim
   ·exact h.elim
 | makeSlice t n c=>
   simp only [ho] at h;split at h
   ·split at h
    ·split at h
     ·rw [T.ak] at h;exact kZ h.2
     ·exact h.elim
    ·exact h.elim
   ·exact h.elim
 | call c=>
   obtain ⟨callee,args,ts⟩:=c
   cases callee with
   | value f=>
     cases f with
     | func g=>
       simp only [ho,cD] at hk h;by_cases vD:jY cfg.P g=true
       ·rw [if_pos vD] at hk;omega
       rw [if_neg vD] at hk h;have No:(cfg.lB g).isSome=true:=by cases hx:(cfg.lB g).isSome<;>simp [hx] at hk;rfl
       exact (lM No h).2.1
     | _=>simp only [ho] at hk;omega
   | builtin b=>simp only [ho] at hk;cases b<;>simp at hk
   | invoke r m=>simp only [ho] at hk;omega
 | convert s d x=>simp only [ho] at hk;split at hk<;>first | omega | (split at hk<;>omega)
 | _=>simp only [ho] at hk;omega
theorem Mr {H H':Heap cod} {h i o:Nat} {xs:List Cell} (hs:(ky H h i o xs).ah H') {S:Nat→Prop} {n:Nat} (gF:∀k x,k < n→H[k]? =some x→x.bQ=true→S k):∀k x,k < n→H'[k]? =some x→x.bQ=true→S k:=by
 have key:∀(ob Qd:av cod),getObj H h=ob→ob≠.dead→Qd.bQ=ob.bQ→H'=H.set h Qd→∀k x,k < n→H'[k]? =some x→x.bQ=true→S k:=by
  intro ob Qd ho hd hw he k x hk hx Y3;subst he;have hg:=aE ho hd;by_cases e:k=h
  ·subst e;rw [List.getElem?_set_self (List.getElem?_eq_some_iff.1 hg).1] at hx;simp only [Option.some.injEq] at hx;subst hx;exact gF k ob hk hg (by rw [←hw];exact Y3)
  ·rw [List.getElem?_set_ne (by omega)] at hx;exact gF k x hk hx Y3
 unfold ky at hs
 cases ho:getObj H h with
 | aF c0 ty=>
   rw [ho] at hs;simp only at hs;split at hs
   ·rw [T.ad] at hs;exact key _ _ ho (by simp) (by rfl) hs.symm
   ·exact hs.elim
 | arr t l ty=>
   rw [ho] at hs;simp only at hs;split at hs
   ·rw [T.ak,T.ad] at hs;exact key _ _ ho (by simp) (by rfl) hs.2.symm
   ·exact hs.elim
 | own t l ty=>
   rw [ho] at hs;simp only at hs;split at hs
   ·rw [T.ak,T.ad] at hs;exact key _ _ ho (by simp) (by rfl) hs.2.symm
   ·exact hs.elim
 | iC pre t m l post ty=>
   rw [ho] at hs;simp only at hs;split at hs
   ·rw [T.ak,T.ad] at hs;exact key _ _ ho (by simp) (by rfl) hs.2.symm
   ·split at hs
    ·rw [T.ad] at hs;exact key _ _ ho (by simp) (by rfl) hs.symm
    ·split at hs
     ·rw [T.ad] at hs;exact key _ _ ho (by simp) (by rfl) hs.symm
     ·exact hs.elim
 | aY c0=>rw [ho] at hs;exact hs.elim
 | gL c0=>rw [ho] at hs;exact hs.elim
 | aB t l=>rw [ho] at hs;exact hs.elim
 | cL t LL op=>rw [ho] at hs;exact hs.elim
 | cj t LL js cs ty tyr=>rw [ho] at hs;exact hs.elim
 | dead=>rw [ho] at hs;exact hs.elim
theorem Js {cfg:aT cod} {H:Heap cod} {t:TypeId} {x:SV} {out:Out cod} {S:Nat→Prop} {n:Nat} (h:(xw cfg H t x).ah out) (_:n≤H.length) (gF:∀k x,k < n→H[k]? =some x→x.bQ=true→S k):
 (∀k x,k < n→out.H[k]? =some x→x.bQ=true→S k)∧∀k∈out.kill,k < n→S k:=by
 unfold xw at h;split at h
 ·rename_i e hh i m tt ht hs;split at h
  ·rename_i u l ty zc ho hz;split at h
   ·rw [T.ak,T.ad] at h;obtain ⟨_,rfl⟩:=h;refine ⟨fun k y hk hy hw=>?_,fun k hk=>by cases hk⟩;simp only at hy;by_cases e:k=hh
    ·subst e;exact gF k _ hk (aE ho (by simp)) rfl
    ·rw [List.getElem?_set_ne (Ne.symm e)] at hy;exact gF k y hk hy hw
   ·exact h.elim
  ·exact h.elim
 ·exact h.elim
theorem OR {cfg:aT cod} {H:Heap cod} {t:TypeId} {x y:SV} {out:Out cod} {S:Nat→Prop} {n:Nat} (h:(AY cfg H t x y).ah out) (_:n≤H.length) (gF:∀k x,k < n→H[k]? =some x→x.bQ=true→S k):
 (∀k x,k < n→out.H[k]? =some x→x.bQ=true→S k)∧∀k∈out.kill,k < n→S k:=by
 unfold AY at h;split at h
 ·rename_i e hh i m tt ht hs;split at h
  ·rename_i u l ty ho;split at h
   ·rw [T.aw] at h;obtain ⟨l',_,h⟩:=h;rw [T.ak,T.ad] at h;obtain ⟨_,rfl⟩:=h;refine ⟨fun k y hk hy hw=>?_,fun k hk=>by cases hk⟩;simp only at hy;by_cases e:k=hh
    ·subst e;exact gF k _ hk (aE ho (by simp)) rfl
    ·rw [List.getElem?_set_ne (Ne.symm e)] at hy;exact gF k y hk hy hw
   ·exact h.elim
  ·exact h.elim
 ·exact h.elim
theorem Fu {cfg:aT cod} {H:Heap cod} {t:TypeId} {s x:SV} {out:Out cod} (h:(dA cfg H t s x).ah out) {S:Nat→Prop} {n:Nat} (hn:n≤H.length) (gF:∀k y,k < n→H[k]? =some y→y.bQ=true→S k):
 (∀k y,k < n→out.H[k]? =some y→y.bQ=true→S k)∧∀k∈out.kill,k < n→S k:=by
 unfold dA at h;split at h
 ·split at h
  ·unfold fk at h;split at h
   ·split at h
    ·split at h
     ·rw [T.ad] at h;subst h;refine ⟨fun k y hk hy=>?_,fun k hk=>by cases hk⟩;rw [List.getElem?_append_left (by omega)] at hy;exact gF k y hk hy
     ·exact h.elim
    ·exact h.elim
   ·exact h.elim
  ·split at h
   ·rw [T.aw] at h;obtain ⟨l',_,h⟩:=h;split at h
    ·rename_i hh m;split at h
     ·rename_i u' l mw ho;split at h
      ·split at h
       ·rw [T.ak,T.ad] at h;obtain ⟨_,rfl⟩:=h;have hg:=aE ho (by simp);refine ⟨fun k y hk hy UF=>?_,fun k hk Kd=>by simp only [List.mem_singleton] at hk;subst hk;exact gF _ _ Kd hg rfl⟩;simp only [List.getElem?_map] at hy;obtain ⟨z,hz,rfl⟩:=Option.map_eq_some_iff.1 hy;rw [j7] at UF;by_cases e:k=hh
        ·subst e;exact gF _ _ hk hg rfl
        ·rw [List.getElem?_set_ne (by omega)] at hz;exact gF k z hk hz UF
       ·exact h.elim
      ·exact h.elim
     ·exact h.elim
    ·by_cases rq:cfg.emp=true
     ·rw [if_pos rq,T.ak,T.ad] at h;obtain ⟨_,rfl⟩:=h;exact ⟨fun k y hk hy=>gF k y hk hy,fun k hk=>by cases hk⟩
     rw [if_neg rq] at h;rcases gJ h with ⟨_,rfl⟩ | h
     ·exact ⟨fun k y hk hy=>gF k y hk hy,fun k hk=>by cases hk⟩
     rw [T.aw] at h;obtain ⟨l,_,h⟩:=h;rw [T.ak,T.ad] at h;obtain ⟨_,rfl⟩:=h;refine ⟨fun k y hk hy=>?_,fun k hk=>by cases hk⟩;rw [List.getElem?_append_left (by omega)] at hy;exact gF k y hk hy
    ·obtain ⟨_,rfl⟩:=jK h;refine ⟨fun k y hk hy=>?_,fun k hk=>by cases hk⟩;rw [List.getElem?_append_left (by omega)] at hy;exact gF k y hk hy
    ·exact h.elim
   ·exact h.elim
 ·exact h.elim
theorem OH {H:Heap cod} {kp:Bool} {s:aH cod} {args:List SV} {out:Out cod} (h:(uI H kp s args).ah out) {S:Nat→Prop} {n:Nat} (hn:n≤H.length) (gF:∀k y,k < n→H[k]? =some y→y.bQ=true→S k):
 (∀k y,k < n→out.H[k]? =some y→y.bQ=true→S k)∧∀k∈out.kill,k < n→S k:=by
 unfold uI at h;simp only at h;generalize reach H 3 (dh [] (args.flatMap SV.hs))=hs at h;split at h
 ·rw [T.aw] at h;obtain ⟨⟨r,H'⟩,hr,h⟩:=h;simp only at h;split at h
  ·rename_i Ns;obtain ⟨_,_,_,Gn⟩:=Ns;rw [T.ad] at h;subst h;refine ⟨fun k y hk hy UF=>?_,fun k hk Kd=>?_⟩
   ·simp only at hy;rw [List.getElem?_append_left (by simp;omega),List.getElem?_map,List.getElem?_range (by omega)] at hy;simp only [Option.map_some,Option.some.injEq] at hy;have hg:H[k]? =some (getObj H k):=bD (by omega);refine gF k _ hk hg ?_;split at hy
    ·rename_i hc;simp only [Bool.and_eq_true] at hc;have hm:k∈hs:=by simpa using hc.1
     have g1:=List.idxOf_lt_length_of_mem hm;have g2:hs.getD (hs.idxOf k) 0=k:=by simp [List.getD,List.getElem?_eq_getElem g1]
     have hkd:=List.all_eq_true.1 Gn (hs.idxOf k) (List.mem_range.2 g1);subst hy;rw [j7] at UF;rw [g2,UF] at hkd;simp only [Bool.and_eq_true,Bool.not_true,Bool.or_false] at hkd;exact hkd.2
    ·subst hy
     rwa [j7] at UF
   ·obtain ⟨h1,h2⟩:=List.mem_filter.1 hk;simp only [Bool.and_eq_true] at h2;exact gF k _ Kd (bD (by omega)) h2.2
  ·exact h.elim
 ·exact h.elim
theorem VF {cfg:aT cod} {tm:List SV} {H:Heap cod} {o:Oper} {out:Out cod} {S:Nat→Prop} {n:Nat} (h:(iB cfg tm H o).ah out) (hn:n≤H.length) (gF:∀k x,k < n→H[k]? =some x→x.bQ=true→S k):
 (∀k x,k < n→out.H[k]? =some x→x.bQ=true→S k)∧∀k∈out.kill,k < n→S k:=by
 have grow:∀X,out.H=H++X→out.kill=[]→(∀k x,k < n→out.H[k]? =some x→x.bQ=true→S k)∧∀k∈out.kill,k < n→S k:=by
  intro X hX hk;refine ⟨fun k x Kd hx=>?_,fun k h=>by rw [hk] at h;cases h⟩;rw [hX,List.getElem?_append_left (by omega)] at hx;exact gF k x Kd hx
 have mk_:∀{ob:av cod},(iy cfg o.dst H ob).ah out→ob.bQ=false→(∀k x,k < n→out.H[k]? =some x→x.bQ=true→S k)∧∀k∈out.kill,k < n→S k:=fun hh dN=>by
  unfold iy at hh;split at hh
  ·rw [gh,T.ad] at hh;subst hh;exact grow _ rfl rfl
  ·split at hh
   ·rename_i kk _ _;rw [T.ad] at hh;subst hh;refine ⟨fun k x Kd hx Y3=>?_,fun k hk=>by cases hk⟩;simp only at hx;by_cases e:k=kk
    ·subst e;rcases Nat.lt_or_ge k H.length with hl | hl
     ·rw [List.getElem?_set_self hl] at hx;simp only [Option.some.injEq] at hx;subst hx;rw [dN] at Y3;cases Y3
     ·rw [List.getElem?_eq_none (by simpa using hl)] at hx;cases hx
    ·rw [List.getElem?_set_ne (by omega)] at hx;exact gF k x Kd hx Y3
   ·exact hh.elim
 by_cases h0:kindOf cfg o=0
 ·obtain ⟨h1,h2,_⟩:=Nw h0 h;exact grow [] (by rw [h1];simp) h2
 by_cases h1:kindOf cfg o=1
 ·obtain ⟨h1,h2,_⟩:=Nx h1 h;exact grow [] (by rw [h1];simp) h2
 by_cases h2:kindOf cfg o=2
 ·obtain ⟨X,hX⟩:=aa4 h2 h;exact grow X hX (Kn (by omega) h)
 cases ho:o.op with
 | store t x y=>
   have hk:=Kn (by unfold kindOf;rw [ho];exact Nat.le_refl _) h;unfold iB at h;simp only [ho] at h;split at h
   ·split at h
    ·rw [T.aw] at h;obtain ⟨H',hs,hr⟩:=h;rw [T.ad] at hr;subst hr;exact ⟨Mr hs gF,fun k h=>by cases h⟩
    ·exact h.elim
   ·exact h.elim
 | call c=>
   obtain ⟨callee,args,ts⟩:=c
   cases callee with
   | value f=>
     unfold iB at h;simp only [ho] at h;split at h
     ·split at h
      ·rw [T.aw] at h;obtain ⟨v,_,h⟩:=h;rw [T.ad] at h;subst h;exact grow [] (by simp) rfl
      unfold mh at h;split at h
      ·obtain ⟨k1,⟨X,hX⟩,_⟩:=xt h;exact grow X hX k1
      ·split at h
       ·exact OH h hn gF
       ·exact h.elim
     ·exact h.elim
   | builtin b=>
     unfold iB at h;simp only [ho] at h
     cases b with
     | append=>
       generalize args.toList.map (cD tm)=l at h;rcases l with _ | ⟨s,_ | ⟨x,_ | ⟨y,l⟩⟩⟩
       ·exact h.elim
       ·exact h.elim
       ·simp only [dc] at h;split at h
        ·split at h
         ·exact Fu h hn gF
         ·exact h.elim
        ·exact h.elim
       ·exact h.elim
     | clear=>
       generalize args.toList.map (cD tm)=l at h;rcases l with _ | ⟨x,_ | ⟨y,l⟩⟩
       ·exact h.elim
       ·simp only [dc] at h;split at h
        ·exact Js h hn gF
        ·exact h.elim
       ·exact h.elim
     | copy=>
       generalize args.toList.map (cD tm)=l at h;rcases l with _ | ⟨x,_ | ⟨y,_ | ⟨z,l⟩⟩⟩
       ·exact h.elim
       ·exact h.elim
       ·simp only [dc] at h;split at h
        ·exact OR h hn gF
        ·exact h.elim
       ·exact h.elim
     | len=>exact absurd (by unfold kindOf;simp only [ho]) h0
     | max=>exact absurd (by unfold kindOf;simp only [ho]) h0
     | min=>exact absurd (by unfold kindOf;simp only [ho]) h0
     | _=>exact h.elim
   | invoke r m=>unfold iB at h;simp only [ho] at h;exact h.elim
 | alloc e=>
   unfold iB at h;simp only [ho] at h;split at h
   ·exact mk_ h (me cfg _ _).2.1
   ·exact h.elim
 | box e x=>
   unfold iB at h;simp only [ho] at h;split at h
   ·exact mk_ h (me cfg _ _).2.1
   ·exact h.elim
 | convert s d x=>
   unfold iB at h;simp only [ho] at h;split at h
   ·unfold rZ at h;split at h
    ·split at h
     ·split at h
      ·rw [T.ak,gh,T.ad] at h;obtain ⟨_,rfl⟩:=h;exact grow _ rfl rfl
      ·exact h.elim
     ·exact h.elim
    ·exact h.elim
   ·rw [T.aw] at h;obtain ⟨v,_,h⟩:=h;rw [T.ad] at h;subst h;exact grow [] (by simp) rfl
   ·unfold NG at h;split at h
    ·split at h
     ·rename_i dN _;split at h
      ·rw [T.ad] at h;subst h;refine ⟨fun k y hk hy UF=>?_,fun k hk=>by cases hk⟩;rw [List.getElem?_set] at hy;split at hy
       ·split at hy
        ·cases hy;cases UF
        ·cases hy
       ·exact gF k y hk hy UF
      ·exact h.elim
     ·exact h.elim
    ·exact h.elim
   ·rw [T.aw] at h;obtain ⟨v,_,h⟩:=h;rw [T.ad] at h;subst h
    exact grow [] (by simp) rfl
 | move x=>
   have:kindOf cfg o=0∨kindOf cfg o=2:=by unfold kindOf;simp only [ho];split<;>simp
   omega
 | assign x=>
   have:kindOf cfg o=0∨kindOf cfg o=2:=by unfold kindOf;simp only [ho];split<;>simp
   omega
 | _=>first
   | (exfalso;apply h0;unfold kindOf;simp only [ho];done)
   | (exfalso;apply h1;unfold kindOf;simp only [ho];done)
   | (exfalso;apply h2;unfold kindOf;simp only [ho];done)
   | (unfold iB at h;simp only [ho] at h;exact h.elim)
end
end Sym
end Go.Proofs.YtcjagpfbhnmggaaGreatDoor
