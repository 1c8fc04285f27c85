/- Parts of the proof. -/
import Derived.Test.YtcjagpfbhnmggaaGreatDoorBd1
namespace Go.Proofs.YtcjagpfbhnmggaaGreatDoor
namespace Sym
open Go.RowKit
structure HV where
 block:Nat
 off:Nat
 fE:Nat
 val:Value
 rows:List Value
abbrev Env:=Nat→HV
def HV.addr (x:HV) (i o:Nat):Addr:=⟨x.block,x.off+(i*x.fE+o),none⟩
inductive F2 {α β:Type} (R:α→β→Prop):List α→List β→Prop where
 | nil:F2 R [] []
 | cons {a:α} {b:β} {l:List α} {m:List β} (h:R a b) (t:F2 R l m):F2 R (a::l) (b::m)
def bZ (env:Env) (N:Nat):Cell→Value→Prop
 | .int k n,v=>v= .int k n
 | .bool b,v=>v= .bool b
 | .str s,v=>v= .string ⟨s.toArray⟩
 | .ptr h i o,v=>h < N∧v= .pointer (some ((env h).addr i o))
 | .ai h i n t,v=>h < N∧∃A c,v= .slice A n c∧n≤c∧c≤maxLen∧(t=true→c=n)∧(0 < n→A=some ((env h).addr i 0))
 | .own h n,v=>h < N∧v=(env h).val∧∃A c,v= .slice A n c∧n≤c∧c≤maxLen∧(0 < n→A=some ((env h).addr 0 0))
 | .nil,v=>v= .slice none 0 0
 | .fn f dC,v=>(∀c∈dC,c.1 < N)∧v= .func (.func f) #[] (dC.map fun c=>Value.pointer (some ((env c.1).addr c.2.1 c.2.2))).toArray
 | .raw u,v=>v=u
 | .eJ,_=>True
def ct (env:Env) (N:Nat) (cs:List Cell) (vs:List Value):Prop:=F2 (bZ env N) cs vs
def fi (env:Env) (N:Nat):SV→Value→Prop
 | .c x,v=>bZ env N x v
 | .agg cs,v=>∃vs,v= .agg vs∧ct env N cs vs.toList
 | .aP _,_=>False
def aS (env:Env) (N:Nat):SV→Value→Prop
 | .aP l,v=>∃vs,v= .tuple vs∧F2 (fi env N) l vs.toList
 | x,v=>fi env N x v
def eH (N:Nat) (env aK:Env):Prop:=∀h,h < N→aK h=env h
theorem eH.refl (N:Nat) (env:Env):eH N env env:=fun _ _=>rfl
theorem kN {env aK:Env} {N N':Nat} (hN:N≤N') (he:eH N env aK) {c:Cell} {v:Value} (h:bZ env N c v):bZ aK N' c v:=by
 cases c<;>simp only [bZ] at h ⊢ <;>try exact h
 case ptr x i o=>exact ⟨by omega,by rw [he x h.1];exact h.2⟩
 case ai x i n t=>
  obtain ⟨h1,A,c,h2,h3,h4,h5,h6⟩:=h;exact ⟨by omega,A,c,h2,h3,h4,h5,by rw [he x h1];exact h6⟩
 case own x n=>
  obtain ⟨h1,h2,A,c,h3,h4,h5,h6⟩:=h;exact ⟨by omega,by rw [he x h1];exact h2,A,c,h3,h4,h5,by rw [he x h1];exact h6⟩
 case fn f dC=>
  obtain ⟨h1,rfl⟩:=h;refine ⟨fun c hc=>by have:=h1 c hc;omega,?_⟩;congr 2;exact List.map_congr_left fun c hc=>by rw [he c.1 (h1 c hc)]
theorem ee {α β:Type} {R S:α→β→Prop} (h:∀a b,R a b→S a b):∀{l:List α} {m:List β},F2 R l m→F2 S l m
 | _,_,.nil=>.nil
 | _,_,.cons x xs=>.cons (h _ _ x) (ee h xs)
theorem fN {env aK:Env} {N N':Nat} (hN:N≤N') (he:eH N env aK) {cs:List Cell} {vs:List Value} (h:ct env N cs vs):ct aK N' cs vs:=
 ee (fun _ _ h=>kN hN he h) h
theorem zT {env aK:Env} {N N':Nat} (hN:N≤N') (he:eH N env aK) {x:SV} {v:Value} (h:fi env N x v):fi aK N' x v:=by
 cases x with
 | c x=>exact kN hN he h
 | agg cs=>obtain ⟨vs,h1,h2⟩:=h;exact ⟨vs,h1,fN hN he h2⟩
 | aP l=>exact h
theorem oM {env aK:Env} {N N':Nat} (hN:N≤N') (he:eH N env aK) {x:SV} {v:Value} (h:aS env N x v):aS aK N' x v:=by
 cases x with
 | c x=>exact kN hN he h
 | agg cs=>exact zT (x:=.agg cs) hN he h
 | aP l=>obtain ⟨vs,h1,h2⟩:=h;exact ⟨vs,h1,ee (fun _ _ h=>zT hN he h) h2⟩
theorem cq {α β:Type} {R:α→β→Prop}:∀{l:List α} {m:List β},F2 R l m→l.length=m.length
 | _,_,.nil=>rfl
 | _,_,.cons _ xs=>by simp [cq xs]
theorem pW {α β:Type} {R:α→β→Prop}:∀{l:List α} {m:List β},F2 R l m→∀{i:Nat} {a:α},l[i]? =some a→∃b,m[i]? =some b∧R a b
 | _,_,.nil,i,a,h=>by simp at h
 | _,_,.cons (a:=x) (b:=y) hx xs,0,a,h=>by simp at h;subst h;exact ⟨y,by simp,hx⟩
 | _,_,.cons hx xs,i+1,a,h=>by
   obtain ⟨b,h1,h2⟩:=pW xs (i:=i) (by simpa using h);exact ⟨b,by simpa using h1,h2⟩
theorem oe {α β:Type} {R:α→β→Prop} {l l':List α} {m m':List β} (h:F2 R l m) (h':F2 R l' m'):F2 R (l++l') (m++m'):=by
 induction h with
 | nil=>exact h'
 | cons x _ ih=>exact .cons x ih
theorem vT {α β:Type} {R:α→β→Prop}:∀{l:List α} {m:List β} (n:Nat),F2 R l m→F2 R (l.take n) (m.take n)
 | _,_,0,_=>.nil
 | _,_,_+1,.nil=>.nil
 | _,_,n+1,.cons x xs=>.cons x (vT n xs)
theorem Dj {α β:Type} {R:α→β→Prop}:∀{l:List α} {m:List β} (n:Nat),F2 R l m→F2 R (l.drop n) (m.drop n)
 | _,_,0,h=>h
 | _,_,_+1,.nil=>.nil
 | _,_,n+1,.cons _ xs=>Dj n xs
theorem xZ {α β:Type} {R:α→β→Prop} {a:α} {b:β} (Nf:R a b):∀{l:List α} {m:List β} (n:Nat),F2 R l m→F2 R (l.set n a) (m.set n b)
 | _,_,_,.nil=>.nil
 | _,_,0,.cons _ xs=>.cons Nf xs
 | _,_,n+1,.cons x xs=>.cons x (xZ Nf n xs)
theorem TO {α β γ δ:Type} {R:α→β→Prop} {S:γ→δ→Prop} {f:α→γ} {g:β→δ} (hfg:∀a b,R a b→S (f a) (g b)):∀{l:List α} {m:List β},F2 R l m→F2 S (l.map f) (m.map g)
 | _,_,.nil=>.nil
 | _,_,.cons x xs=>.cons (hfg _ _ x) (TO hfg xs)
theorem M4 {α β:Type} {R:α→β→Prop} {f:α→β}:∀{l:List α},(∀a∈l,R a (f a))→F2 R l (l.map f)
 | [],_=>.nil
 | a::_,h=>.cons (h a (List.mem_cons_self ..)) (M4 fun b hb=>h b (List.mem_cons_of_mem _ hb))
theorem Dk {α β:Type} {R:α→β→Prop} {da:α} {db:β} (hd:R da db) {l:List α} {m:List β} (h:F2 R l m) (i:Nat):R (l.getD i da) (m.getD i db):=by
 have hl:=cq h;rcases Nat.lt_or_ge i l.length with hi | hi
 ·obtain ⟨b,h1,h2⟩:=pW h (List.getElem?_eq_getElem hi);simp only [List.getD,List.getElem?_eq_getElem hi,h1,Option.getD_some];exact h2
 ·simp only [List.getD,List.getElem?_eq_none hi,List.getElem?_eq_none (show m.length≤i by omega),Option.getD_none];exact hd
theorem zh {env:Env} {N:Nat} {c:Cell} (h:c.scalar=true):bZ env N c c.val:=by
 cases c<;>simp [Cell.scalar] at h<;>rfl
theorem LA {env:Env} {N:Nat} {c:Cell} {v:Value} (h:c.scalar=true) (hr:bZ env N c v):v=c.val:=by
 cases c<;>simp [Cell.scalar] at h<;>exact hr
theorem l5 {c:Cell} (h:c.scalar=true):c.val.oneCell'=true:=by
 cases c<;>simp [Cell.scalar] at h<;>rfl
theorem gd {env:Env} {N:Nat} {cs:List Cell} (h:cs.all Cell.scalar=true):ct env N cs (cs.map Cell.val):=
 M4 fun c hc=>zh (List.all_eq_true.1 h c hc)
theorem cN {env:Env} {N:Nat}:∀{cs:List Cell} {vs:List Value},cs.all Cell.scalar=true→ct env N cs vs→vs=cs.map Cell.val
 | _,_,_,.nil=>rfl
 | _,_,h,.cons x xs=>by
   simp only [List.all_cons,Bool.and_eq_true] at h;rw [List.map_cons,LA h.1 x,cN h.2 xs]
section
variable {cod:Nat→aO}
def aN (c:aO) (l:List c.α):List Value:=(l.flatMap c.enc).map Cell.val
theorem jF (c:aO):∀l:List c.α,(l.flatMap c.enc).length=l.length*c.size
 | []=>by simp
 | a::l=>by rw [List.flatMap_cons,List.length_append,c.size_eq,jF c l,List.length_cons,Nat.add_mul];omega
theorem bB (c:aO) (l:List c.α):(aN c l).length=l.length*c.size:=by rw [aN,List.length_map,jF]
theorem gD (c:aO) (l:List c.α):(l.flatMap c.enc).all Cell.scalar=true:=by
 rw [List.all_eq_true];intro x hx;obtain ⟨a,_,ha⟩:=List.mem_flatMap.1 hx;exact List.all_eq_true.1 (c.l3 a) x ha
theorem nm (c:aO):∀(l:List c.α) (i j:Nat),i < l.length→j < c.size→(l.flatMap c.enc)[i*c.size+j]? =(c.enc (l.getD i c.d))[j]?
 | [],_,_,h,_=>by simp at h
 | a::l,0,j,_,hj=>by
   rw [List.flatMap_cons,List.getElem?_append_left (by rw [c.size_eq];omega)]
   simp
 | a::l,i+1,j,h,hj=>by
   have e:(i+1)*c.size+j=c.size+(i*c.size+j):=by rw [Nat.add_mul];omega
   rw [List.flatMap_cons,List.getElem?_append_right (by rw [c.size_eq,e];omega),c.size_eq,e,Nat.add_sub_cancel_left];have:=nm c l i j (by simpa using h) hj;simpa using this
theorem r9 (c:aO) (l:List c.α) (i j:Nat) (hi:i < l.length) (hj:j < c.size):(aN c l)[i*c.size+j]? =((c.enc (l.getD i c.d))[j]?).map Cell.val:=by
 rw [aN,List.getElem?_map,nm c l i j hi hj]
theorem dW (c:aO) (l m:List c.α):aN c (l++m)=aN c l++aN c m:=by
 simp [aN]
theorem sf (c:aO) (l:List c.α):∀v∈aN c l,v.oneCell'=true:=by
 intro v hv;obtain ⟨x,hx,rfl⟩:=List.mem_map.1 hv;exact l5 (List.all_eq_true.1 (gD c l) x hx)
theorem H8 (c:aO):∀(l:List c.α) (i:Nat) (a:c.α),i < l.length→aN c (l.set i a)=(aN c l).take (i*c.size)++((c.enc a).map Cell.val++(aN c l).drop (i*c.size+c.size))
 | [],_,_,h=>by simp at h
 | b::l,0,a,_=>by
   simp only [aN,List.set_cons_zero,List.flatMap_cons,List.map_append,Nat.zero_mul,List.take_zero,List.nil_append,Nat.zero_add];congr 1
   rw [List.drop_append,List.drop_of_length_le (by rw [List.length_map,c.size_eq];exact Nat.le_refl _),List.nil_append,List.length_map,c.size_eq,Nat.sub_self,List.drop_zero]
 | b::l,i+1,a,h=>by
   have ih:=H8 c l i a (by simpa using h);simp only [aN,List.set_cons_succ,List.flatMap_cons,List.map_append] at ih ⊢;have hl:((c.enc b).map Cell.val).length=c.size:=by rw [List.length_map,c.size_eq]
   have e:(i+1)*c.size=c.size+i*c.size:=by rw [Nat.add_mul];omega
   have t1:((c.enc b).map Cell.val).take (c.size+i*c.size)=(c.enc b).map Cell.val:=List.take_of_length_le (by omega);have t2:((c.enc b).map Cell.val).drop (c.size+i*c.size+c.size)=[]:=List.drop_of_length_le (by omega);rw [ih,e,List.take_append,List.drop_append,hl,t1,t2,List.nil_append,List.append_assoc,Nat.add_sub_cancel_left,show c.size+i*c.size+c.size - c.size=i*c.size+c.size from by omega]
theorem oL (c:aO):∀(l:List c.α) (i:Nat),i < l.length→(aN c l).drop (i*c.size)=(c.enc (l.getD i c.d)).map Cell.val++(aN c l).drop (i*c.size+c.size)
 | [],i,h=>by simp at h
 | b::l,0,_=>by
   have hl:((c.enc b).map Cell.val).length=c.size:=by rw [List.length_map,c.size_eq]
   simp only [aN,List.flatMap_cons,List.map_append,Nat.zero_mul,List.drop_zero,Nat.zero_add,List.getD_cons_zero]
   rw [List.drop_append,hl,Nat.sub_self,List.drop_zero,List.drop_of_length_le (by omega),List.nil_append]
 | b::l,i+1,h=>by
   have ih:=oL c l i (by simpa using h);have hl:((c.enc b).map Cell.val).length=c.size:=by rw [List.length_map,c.size_eq]
   have e:(i+1)*c.size=c.size+i*c.size:=by rw [Nat.add_mul];omega
   simp only [aN,List.flatMap_cons,List.map_append,List.getD_cons_succ] at ih ⊢;have t1:((c.enc b).map Cell.val).drop (c.size+i*c.size)=[]:=List.drop_of_length_le (by omega);have t2:((c.enc b).map Cell.val).drop (c.size+(i*c.size+c.size))=[]:=List.drop_of_length_le (by omega);rw [e,Nat.add_assoc,List.drop_append,List.drop_append,hl,t1,t2,List.nil_append,List.nil_append,Nat.add_sub_cancel_left,Nat.add_sub_cancel_left];exact ih
theorem nT (c:aO) (l:List c.α) (i o:Nat) (xs:List Cell) (hi:i < l.length) (hle:o+xs.length≤c.size) (qo:c.ok (cS (c.enc (l.getD i c.d)) o xs)=true):
 aN c (l.set i (c.dec (cS (c.enc (l.getD i c.d)) o xs)))=(aN c l).take (i*c.size+o)++xs.map Cell.val++(aN c l).drop (i*c.size+o+xs.length):=by
 have hd:=oL c l i hi;have he:((c.enc (l.getD i c.d)).map Cell.val).length=c.size:=by rw [List.length_map,c.size_eq]
 have h1:(aN c l).drop (i*c.size+o+xs.length)=((c.enc (l.getD i c.d)).map Cell.val).drop (o+xs.length)++(aN c l).drop (i*c.size+c.size):=by
  rw [Nat.add_assoc,←List.drop_drop,hd,List.drop_append,he,show o+xs.length - c.size=0 by omega,List.drop_zero]
 have h2:(aN c l).take (i*c.size+o)=(aN c l).take (i*c.size)++((c.enc (l.getD i c.d)).map Cell.val).take o:=by
  rw [List.take_add,hd,List.take_append,he,show o - c.size=0 by omega,List.take_zero,List.append_nil]
 rw [H8 c l i _ hi,c.ck _ qo,h1,h2,cS];simp only [List.map_append,List.map_take,List.map_drop,List.append_assoc]
def reads (w:World) (x:HV) (vs:List Value):Prop:=∀j u,vs[j]? =some u→w.cell? ⟨x.block,x.off+j,none⟩=some u
structure gR (M:Nat→Prop) (w w':World):Prop where
 os:w'.os=w.os
 tape:w'.tape=w.tape
 output:w'.output=w.output
 size:w.heap.size≤w'.heap.size
 block:∀k,k < w.heap.size→¬M k→w'.heap[k]? =w.heap[k]?
 drawn:dl w≤dl w'
structure Blw (w w':World):Prop where
 below:Below w.heap.size w w'
 drawn:dl w≤dl w'
theorem gR.refl (M:Nat→Prop) (w:World):gR M w w:=⟨rfl,rfl,rfl,Nat.le_refl _,fun _ _ _=>rfl,Nat.le_refl _⟩
theorem gR.trans {M:Nat→Prop} {a b c:World} (h:gR M a b) (k:gR M b c):gR M a c:=
 ⟨k.os.trans h.os,k.tape.trans h.tape,k.output.trans h.output,Nat.le_trans h.size k.size,fun i hi hm=>(k.block i (Nat.lt_of_lt_of_le hi h.size) hm).trans (h.block i hi hm),Nat.le_trans h.drawn k.drawn⟩
theorem gR.mono {M M':Nat→Prop} {w w':World} (h:gR M w w') (hM:∀k,k < w.heap.size→M k→M' k):gR M' w w':=
 ⟨h.os,h.tape,h.output,h.size,fun k hk hm=>h.block k hk fun hh=>hm (hM k hk hh),h.drawn⟩
theorem gR.drew {M:Nat→Prop} {a w:World} (h:gR M a w):gR M a w.drew:=⟨h.os,h.tape,h.output,h.size,h.block,Nat.le_trans h.drawn (re (Nat.le_succ _))⟩
theorem gR.alloc {M:Nat→Prop} {a w:World} (h:gR M a w) (o:Obj):gR M a (w.alloc o):=
 h.trans ⟨rfl,rfl,rfl,by simp,fun k hk _=>Below.heap_alloc _ _ _ hk,Nat.le_refl _⟩
theorem gR.grown {M:Nat→Prop} {a w w':World} {row:Option Nat} (h:gR M a w) (hg:w.grownBy w' row) (hd:w.drawn≤w'.drawn) (hr:∀k,row=some k→M k):gR M a w':=
 h.trans ⟨hg.os,hg.tape,hg.output,hg.size,fun k hk hm=>hg.block k hk (fun e=>hm (hr k e.symm)),re hd⟩
theorem gR.Vw {M:Nat→Prop} {B:Nat} {w w':World} (h:Below B w w') (hd:dl w≤dl w') (hB:∀k,k < w.heap.size→B≤k→M k):gR M w w':=
 ⟨h.os,h.tape,h.output,h.size,fun k hk hm=>h.block k (Nat.lt_of_not_le fun e=>hm (hB k hk e)),hd⟩
theorem gR.below {M:Nat→Prop} {w w':World} (h:gR M w w') (hM:∀k,k < w.heap.size→¬M k):Blw w w':=
 ⟨⟨h.os,h.tape,h.output,h.size,fun k hk=>h.block k hk (hM k hk)⟩,h.drawn⟩
def rowAt (w:World) (c:aO) (v:Value) (l:List c.α):Prop:=
 ∃A k,v= .slice A l.length k∧l.length≤k∧k≤maxLen∧(l≠[]→∃b o,A=some ⟨b,o,none⟩∧b < w.heap.size∧∀j u,(aN c l)[j]? =some u→w.cell? ⟨b,o+j,none⟩=some u)
def tyO (ty:TypeId):TypeId:=if ty < 1000000 then ty else ty - 1000000
def lk (ty:TypeId) (a b:Option Value):Prop:=a=b∨(¬ty < 1000000∧∃A n c c',a=some (.slice A n c)∧b=some (.slice A n c')∧n≤c∧c≤maxLen)
theorem PR {ty:TypeId} (h:ty < 1000000) {a b:Option Value} (k:lk ty a b):a=b:=by
 rcases k with k | k
 ·exact k
 ·exact absurd h k.1
def bH (env:Env) (N:Nat) (x:HV) (w:World) (M:Nat→Prop):av cod→Prop
 | .aF cs ty=>x.off=0∧M x.block∧∃vs:List Value,w.heap[x.block]? =some (.cells vs.toArray ty (0,0))∧ct env N cs vs
 | .aY cs=>x.off=0∧x.block < w.heap.size∧∃vs:List Value,reads w x vs∧ct env N cs vs
 | .gL cs=>x.off=0∧(x.block < w.heap.size∧M x.block)∧∃vs:List Value,reads w x vs∧ct env N cs vs
 | .arr t l ty=>x.off=0∧x.fE=(cod t).size∧M x.block∧w.heap[x.block]? =some (.cells (aN (cod t) l).toArray ty (0,0))
 | .own t l ty=>x.off=0∧x.fE=(cod t).size∧w.ownsRow 0 ty (cod t).size x.val l.length (aN (cod t) l)∧(∀b,x.val.ownBlock=some b→M b)∧(∀A n c,x.val= .slice (some A) n c→A=⟨x.block,0,none⟩)
 | .aB t l=>x.fE=(cod t).size∧reads w x (aN (cod t) l)∧(l≠[]→x.block < w.heap.size)
 | .cL t LL op=>x.fE=1∧∃vs:List Value,x.rows=vs∧vs.length=LL.length∧reads w x vs∧(LL≠[]→x.block < w.heap.size)∧(∀(i:Nat) (v:Value) (l:List (cod t).α),vs[i]? =some v→LL[i]? =some l→rowAt w (cod t) v l)∧
    ∀(p:Nat×Cell),op=some p→∃v,vs[p.1]? =some v∧bZ env N p.2 v
 | .iC pre t m l post ty=>x.off=0∧x.fE=(cod t).size∧M x.block∧l.length=m∧(pre++post).all Cell.scalar=true∧w.heap[x.block]? =some (.cells (pre.map Cell.val++(aN (cod t) l++post.map Cell.val)).toArray ty (0,0))
 | .cj t LL js cs ty tyr=>x.off=0∧x.fE=1∧(x.rows.length=LL.length∧js.length=cs.length)∧
    (∃vs:List Value,w.ownsRow 0 (tyO ty) 1 x.val LL.length vs∧(∀j,j∉js→lk ty vs[j]? x.rows[j]?)∧∀(q j:Nat) (c:Cell),js[q]? =some j→cs[q]? =some c→∃v,vs[j]? =some v∧bZ env N c v)∧
    (∀b,x.val.ownBlock=some b→M b)∧(∀A n c,x.val= .slice (some A) n c→A=⟨x.block,0,none⟩)∧
    (∀(j:Nat) (v:Value) (l:List (cod t).α),j∉js→x.rows[j]? =some v→LL[j]? =some l→w.ownsRow 0 tyr (cod t).size v l.length (aN (cod t) l)∧∀b,v.ownBlock=some b→M b∧x.val.ownBlock≠some b)∧
    (∀(j k:Nat) (v u:Value) (b:Nat),j≠k→j∉js→k∉js→x.rows[j]? =some v→x.rows[k]? =some u→v.ownBlock=some b→u.ownBlock≠some b)
 | .dead=>True
def av.has (x:HV) (b:Nat):av cod→Prop
 | .aF _ _ | .arr _ _ _ | .aY _ | .gL _ | .iC _ _ _ _ _ _=>b=x.block
 | .own _ _ _=>x.val.ownBlock=some b
 | .aB _ l=>l≠[]∧b=x.block
 | .cL _ LL _=>(LL≠[]∧b=x.block)∨∃vs:List Value,x.rows=vs∧∃v∈vs,∃o n k,v= .slice (some ⟨b,o,none⟩) n k∧0 < n
 | .cj _ _ js _ _ _=>x.val.ownBlock=some b∨∃(j:Nat) (v:Value),x.rows[j]? =some v∧j∉js∧v.ownBlock=some b
 | .dead=>False
def pN (w:World) (M:Nat→Prop):Prop:=∀p∈Rb,(∃cs ty tg,w.heap[p.1]? =some (.cells cs ty tg)∧p.2 cs)∧¬M p.1
theorem pN.lt {w:World} {M:Nat→Prop} (h:pN w M) {p:Nat×(Array Value→Prop)} (hp:p∈Rb):p.1 < w.heap.size:=by
 obtain ⟨⟨_,ty,tg,h1,_⟩,_⟩:=h p hp;exact (Array.getElem?_eq_some_iff.1 h1).1
theorem pN.bG {w w':World} {M M':Nat→Prop} (h:pN w M) (hk:∀p∈Rb,p.1 < w.heap.size→¬M p.1→w'.heap[p.1]? =w.heap[p.1]?) (hM:∀p∈Rb,p.1 < w.heap.size→¬M p.1→¬M' p.1):pN w' M':=fun p hp=>by
 obtain ⟨⟨cs,ty,tg,h1,h3⟩,h2⟩:=h p hp;exact ⟨⟨cs,ty,tg,(hk p hp (h.lt hp) h2).trans h1,h3⟩,hM p hp (h.lt hp) h2⟩
structure Good (env:Env) (H:Heap cod) (w:World) (M:Nat→Prop):Prop where
 obj:∀(h:Nat) (o:av cod),H[h]? =some o→bH env H.length (env h) w M o
 sep:∀(h h':Nat) (o o':av cod) (b:Nat),h≠h'→H[h]? =some o→H[h']? =some o'→o.wr=true→o.has (env h) b→¬o'.has (env h') b
 sr:pN w M
theorem fZ {env aK:Env} {N N':Nat} {x:HV} {w:World} {M:Nat→Prop} {o:av cod} (hN:N≤N') (he:eH N env aK) (h:bH env N x w M o):bH aK N' x w M o:=by
 cases o<;>simp only [bH] at h ⊢ <;>try exact h
 ·obtain ⟨h1,h2,vs,h3,h4⟩:=h;exact ⟨h1,h2,vs,h3,fN hN he h4⟩
 ·obtain ⟨h1,h2,vs,h3,h4⟩:=h;exact ⟨h1,h2,vs,h3,fN hN he h4⟩
 ·obtain ⟨h1,h2,vs,h3,h4⟩:=h;exact ⟨h1,h2,vs,h3,fN hN he h4⟩
 ·obtain ⟨h1,vs,h2,h3,h4,h5,h6,h7⟩:=h;exact ⟨h1,vs,h2,h3,h4,h5,h6,fun p hp=>let ⟨v,hv,hc⟩:=h7 p hp;⟨v,hv,kN hN he hc⟩⟩
 ·obtain ⟨h1,h2,h3,⟨vs,h4,h5,h6⟩,h7⟩:=h;exact ⟨h1,h2,h3,⟨vs,h4,h5,fun q j c hj hc=>let ⟨v,hv,hr⟩:=h6 q j c hj hc;⟨v,hv,kN hN he hr⟩⟩,h7⟩
theorem lY {w w':World} {x:HV} {vs:List Value} (h:reads w x vs) (hk:vs≠[]→w'.heap[x.block]? =w.heap[x.block]?):reads w' x vs:=fun j u hu=>by
 have bP:vs≠[]:=by rintro rfl;simp at hu
 exact (World.cell?_of_block (w:=w) (w':=w') (a:=⟨x.block,x.off+j,none⟩) (hk bP)).trans (h j u hu)
theorem gK {w:World} {B:Nat} {e:TypeId} {size n:Nat} {v:Value} {xs:List Value} (h:w.ownsRow B e size v n xs) {b:Nat} (hb:v.ownBlock=some b):B≤b∧b < w.heap.size:=h.lt b hb
theorem lX {w w':World} {B:Nat} {e:TypeId} {size n:Nat} {v:Value} {xs:List Value} (h:w.ownsRow B e size v n xs) (hk:∀b,v.ownBlock=some b→w'.heap[b]? =w.heap[b]?):w'.ownsRow B e size v n xs:=by
 refine ⟨h.1,?_⟩;rcases h.2 with hn | ⟨g,cap,eW,hv,hb,hg,rest⟩
 ·exact .inl hn
 ·exact .inr ⟨g,cap,eW,hv,hb,by rw [hk g (by simp [hv,Value.ownBlock])];exact hg,rest⟩
theorem ff {env:Env} {N:Nat} {x:HV} {w w':World} {M:Nat→Prop} {o:av cod} (h:bH env N x w M o) (hs:w.heap.size≤w'.heap.size) (hk:∀b,o.has x b→w'.heap[b]? =w.heap[b]?):bH env N x w' M o:=by
 cases o with
 | aF cs ty=>obtain ⟨h1,h2,vs,h3,h4⟩:=h;exact ⟨h1,h2,vs,(hk _ rfl).trans h3,h4⟩
 | aY cs=>obtain ⟨h1,h2,vs,h3,h4⟩:=h;exact ⟨h1,by omega,vs,lY h3 (fun _=>hk _ rfl),h4⟩
 | gL cs=>obtain ⟨h1,⟨h2,h5⟩,vs,h3,h4⟩:=h;exact ⟨h1,⟨by omega,h5⟩,vs,lY h3 (fun _=>hk _ rfl),h4⟩
 | arr t l ty=>obtain ⟨h1,h2,h3,h4⟩:=h;exact ⟨h1,h2,h3,(hk _ rfl).trans h4⟩
 | iC pre t m l post ty=>obtain ⟨h1,h2,h3,h5,h6,h4⟩:=h;exact ⟨h1,h2,h3,h5,h6,(hk _ rfl).trans h4⟩
 | own t l ty=>
   obtain ⟨h1,h2,h3,h4,h5⟩:=h;refine ⟨h1,h2,?_,h4,h5⟩;refine ⟨h3.1,?_⟩;rcases h3.2 with hn | ⟨g,cap,eW,hv,hb,hg,rest⟩
   ·exact .inl hn
   ·exact .inr ⟨g,cap,eW,hv,hb,by rw [hk g (by simp [av.has,hv,Value.ownBlock])];exact hg,rest⟩
 | aB t l=>
   obtain ⟨h1,h2,h3⟩:=h;refine ⟨h1,lY h2 (fun bP=>hk _ ⟨?_,rfl⟩),fun hl=>by have:=h3 hl;omega⟩;rintro rfl
   exact bP rfl
 | cL t LL op=>
   obtain ⟨h1,vs,h2,h3,h4,h5,h6,h7⟩:=h;refine ⟨h1,vs,h2,h3,lY h4 (fun bP=>hk _ (.inl ⟨?_,rfl⟩)),fun hl=>by have:=h5 hl;omega,fun i v l hv hl=>?_,h7⟩
   ·rintro rfl;exact bP (List.eq_nil_of_length_eq_zero h3)
   ·obtain ⟨A,c,e1,e2,e3,e4⟩:=h6 i v l hv hl;refine ⟨A,c,e1,e2,e3,fun bP=>?_⟩;obtain ⟨b,o,g1,g2,g3⟩:=e4 bP;refine ⟨b,o,g1,by omega,fun j u hu=>?_⟩;refine (World.cell?_of_block (w:=w) (w':=w') (a:=⟨b,o+j,none⟩) (hk b (.inr ⟨vs,h2,v,List.mem_of_getElem? hv,o,l.length,c,by rw [e1,g1],?_⟩))).trans (g3 j u hu)
    exact List.length_pos_iff.2 bP
 | cj t LL js cs ty tyr=>
   obtain ⟨h1,h2,h3,⟨vs,h4,h5,h6⟩,h7,h8,h9,Ap⟩:=h
   exact ⟨h1,h2,h3,⟨vs,lX h4 fun b hb=>hk b (.inl hb),h5,h6⟩,h7,h8,fun j v l hj hv hl=>⟨lX (h9 j v l hj hv hl).1 fun b hb=>hk b (.inr ⟨j,v,hv,hj,hb⟩),(h9 j v l hj hv hl).2⟩,Ap⟩
 | dead=>trivial
theorem bi {env:Env} {N:Nat} {x:HV} {w:World} {M:Nat→Prop} {o:av cod} (h:bH env N x w M o) {b:Nat} (hb:o.has x b):b < w.heap.size:=by
 have lt:∀{k:Nat} {ob:Obj},w.heap[k]? =some ob→k < w.heap.size:=fun h=>(Array.getElem?_eq_some_iff.1 h).1
 cases o with
 | aF cs ty=>obtain ⟨h1,h2,vs,h3,h4⟩:=h;simp only [av.has] at hb;subst hb;exact lt h3
 | aY cs=>obtain ⟨h1,h2,_⟩:=h;simp only [av.has] at hb;subst hb;exact h2
 | gL cs=>obtain ⟨h1,h2,_⟩:=h;simp only [av.has] at hb;subst hb;exact h2.1
 | arr t l ty=>obtain ⟨h1,h2,h3,h4⟩:=h;simp only [av.has] at hb;subst hb;exact lt h4
 | iC pre t m l post ty=>obtain ⟨h1,h2,h3,h5,h6,h4⟩:=h;simp only [av.has] at hb;subst hb;exact lt h4
 | own t l ty=>obtain ⟨h1,h2,h3,h4,h5⟩:=h;exact (gK h3 hb).2
 | aB t l=>
   obtain ⟨h1,h2,h3⟩:=h;simp only [av.has] at hb;rw [hb.2]
   exact h3 hb.1
 | cL t LL op=>
   obtain ⟨h1,vs,h2,h3,h4,h5,h6,h7⟩:=h;rcases hb with ⟨q1,q2⟩ | ⟨vs',e,v,hv,o,n,k,hs,hn⟩
   ·rw [q2];exact h5 q1
   ·have e':vs=vs':=h2.symm.trans e;subst e';obtain ⟨i,hi,hiv⟩:=List.getElem_of_mem hv;have Nr:vs[i]? =some v:=by rw [List.getElem?_eq_getElem hi,hiv]
    obtain ⟨A,c,e1,e2,e3,e4⟩:=h6 i v (LL[i]'(by omega)) Nr (List.getElem?_eq_getElem (by omega));rw [hs] at e1;simp only [Value.slice.injEq] at e1;obtain ⟨e1,en,_⟩:=e1;obtain ⟨b',o',g1,g2,_⟩:=e4 (List.length_pos_iff.1 (by omega));rw [←e1] at g1;simp only [Option.some.injEq,Addr.mk.injEq] at g1;rw [g1.1]
    exact g2
 | cj t LL js cs ty tyr=>
   obtain ⟨h1,h2,h3,⟨vs,h4,h5,h6⟩,h7,h8,h9,Ap⟩:=h;rcases hb with hb | ⟨j,v,hv,hj,hb⟩
   ·exact (gK h4 hb).2
   ·have cI:=(List.getElem?_eq_some_iff.1 hv).1;have h3:=h3.1
    exact (gK (h9 j v (LL[j]'(by omega)) hj hv (List.getElem?_eq_getElem (by omega))).1 hb).2
 | dead=>exact hb.elim
theorem cR {env:Env} {N:Nat} {x:HV} {w:World} {M:Nat→Prop} {o:av cod} (h:bH env N x w M o) (hw:o.wr=true) {b:Nat} (hb:o.has x b):M b:=by
 cases o with
 | aF cs ty=>simp only [av.has] at hb;subst hb;exact h.2.1
 | gL cs=>simp only [av.has] at hb;subst hb;exact h.2.1.2
 | arr t l ty=>simp only [av.has] at hb;subst hb;exact h.2.2.1
 | iC pre t m l post ty=>simp only [av.has] at hb;subst hb;exact h.2.2.1
 | own t l ty=>exact h.2.2.2.1 b hb
 | cj t LL js cs ty tyr=>
   obtain ⟨h1,h2,h3,⟨vs,h4,h5,h6⟩,h7,h8,h9,Ap⟩:=h;rcases hb with hb | ⟨j,v,hv,hj,hb⟩
   ·exact h7 b hb
   ·have cI:=(List.getElem?_eq_some_iff.1 hv).1;have h3:=h3.1
    exact ((h9 j v (LL[j]'(by omega)) hj hv (List.getElem?_eq_getElem (by omega))).2 b hb).1
 | _=>simp [av.wr] at hw
theorem Good.bG {env:Env} {H:Heap cod} {w w':World} {M:Nat→Prop} (G:Good env H w M) (hs:w.heap.size≤w'.heap.size) (hk:∀k,k < w.heap.size→w'.heap[k]? =w.heap[k]?):Good env H w' M:=
 ⟨fun h o ho=>ff (G.obj h o ho) hs fun b hb=>hk b (bi (G.obj h o ho) hb),G.sep,G.sr.bG (fun _ _ hl _=>hk _ hl) fun _ _ _ h=>h⟩
theorem Good.below {env:Env} {H:Heap cod} {w w':World} {M:Nat→Prop} {C:Nat} (G:Good env H w M) (hb:Below C w w') (hC:w.heap.size≤C):Good env H w' M:=
 G.bG hb.size fun k hk=>hb.block k (by omega)
def Env.set (env:Env) (h:Nat) (x:HV):Env:=fun k=>if k=h then x else env k
theorem Env.l6 (env:Env) (N:Nat) (x:HV):eH N env (env.set N x):=fun h hh=>by unfold Env.set;rw [if_neg (by omega)]
theorem Env.aU (env:Env) (h:Nat) (x:HV):env.set h x h=x:=by simp [Env.set]
theorem Env.aD (env:Env) {h k:Nat} (x:HV) (hk:k≠h):env.set h x k=env k:=by simp [Env.set,hk]
theorem Good.push {env:Env} {H:Heap cod} {w w':World} {M:Nat→Prop} (G:Good env H w M) (x:HV) (o:av cod) (hs:w.heap.size≤w'.heap.size) (hk:∀k,k < w.heap.size→w'.heap[k]? =w.heap[k]?)
 (ho:bH (env.set H.length x) (H.length+1) x w' M o) (vC:∀b,o.has x b→w.heap.size≤b):Good (env.set H.length x) (H++[o]) w' M:=by
 have G':=G.bG hs hk
 have aL:∀h a,(H++[o])[h]? =some a→(h < H.length∧H[h]? =some a)∨(h=H.length∧a=o):=by
  intro h a ha;rcases Nat.lt_or_ge h H.length with hl | hl
  ·rw [List.getElem?_append_left hl] at ha;exact .inl ⟨hl,ha⟩
  ·rw [List.getElem?_append_right hl] at ha
   have:h - H.length=0:=by
    rcases Nat.eq_zero_or_pos (h - H.length) with e | e
    ·exact e
    ·rw [List.getElem?_eq_none (by simp;omega)] at ha;cases ha
   rw [this] at ha;simp at ha;exact .inr ⟨by omega,ha.symm⟩
 refine ⟨fun h a ha=>?_,fun h h' a a' b bP ha Pq hw hb eG=>?_,G'.sr⟩
 ·rw [List.length_append,List.length_singleton];rcases aL h a ha with ⟨hl,h1⟩ | ⟨rfl,rfl⟩
  ·rw [Env.aD _ _ (by omega)];exact fZ (by omega) (Env.l6 env _ x) (G'.obj h a h1)
  ·rw [Env.aU];exact ho
 ·rcases aL h a ha with ⟨hl,h1⟩ | ⟨rfl,rfl⟩<;>rcases aL h' a' Pq with ⟨gP,jj⟩ | ⟨rfl,rfl⟩
  ·rw [Env.aD _ _ (by omega)] at hb eG;exact G.sep h h' a a' b bP h1 jj hw hb eG
  ·rw [Env.aD _ _ (by omega)] at hb;rw [Env.aU] at eG;have:=bi (G.obj h a h1) hb;have:=vC b eG;omega
  ·rw [Env.aU] at hb;rw [Env.aD _ _ (by omega)] at eG;have:=bi (G.obj h' a' jj) eG;have:=vC b hb;omega
  ·exact bP rfl
theorem Good.write {env:Env} {H:Heap cod} {w w':World} {M:Nat→Prop} {h:Nat} {o o':av cod} (G:Good env H w M) (ho:H[h]? =some o) (hw:o.wr=true) {b:Nat} (hb:o.has (env h) b) (hs:w.heap.size≤w'.heap.size)
 (hk:∀k,k≠b→w'.heap[k]? =w.heap[k]?) (jS:bH env H.length (env h) w' M o') (hu:∀c,o'.has (env h) c→o.has (env h) c):Good env (H.set h o') w' M:=by
 have cI:h < H.length:=(List.getElem?_eq_some_iff.1 ho).1
 have aL:∀k a,(H.set h o')[k]? =some a→(k≠h∧H[k]? =some a)∨(k=h∧a=o'):=by
  intro k a ha;by_cases e:k=h
  ·subst e;rw [List.getElem?_set_self cI] at ha;simp at ha;exact .inr ⟨rfl,ha.symm⟩
  ·rw [List.getElem?_set_ne (by omega)] at ha;exact .inl ⟨e,ha⟩
 refine ⟨fun k a ha=>?_,fun k k' a a' c bP ha Pq uS hc cY=>?_,G.sr.bG (fun p _ _ hn=>hk _ fun e=>hn (by rw [e];exact cR (G.obj h o ho) hw hb)) fun _ _ _ h=>h⟩
 ·rw [List.length_set];rcases aL k a ha with ⟨bP,h1⟩ | ⟨rfl,rfl⟩
  ·exact ff (G.obj k a h1) hs fun c hc=>hk c fun e=>by subst e;exact G.sep h k o a c (Ne.symm bP) ho h1 hw hb hc
  ·exact jS
 ·rcases aL k a ha with ⟨h1,h2⟩ | ⟨rfl,rfl⟩<;>rcases aL k' a' Pq with ⟨jj,oQ⟩ | ⟨rfl,rfl⟩
  ·exact G.sep k k' a a' c bP h2 oQ uS hc cY
  ·exact G.sep k k' a o c bP h2 ho uS hc (hu c cY)
  ·exact G.sep k k' o a' c bP ho oQ hw (hu c hc) cY
  ·exact bP rfl
end
end Sym
namespace Sym
open Go.RowKit
section
variable {P:Program} {env:Env} {N:Nat}
theorem pO {x:SV} {b:Bool} {v:Value} (h:qH x=some b) (hr:aS env N x v):v= .bool b:=by
 unfold qH at h;split at h
 ·simp only [Option.some.injEq] at h;subst h;exact hr
 ·simp only [Option.some.injEq] at h;subst h;exact hr
 ·cases h
theorem iR {α:Type} [BEq α] [LawfulBEq α] [DecidableEq α] (a b:α):(a==b)=decide (a=b):=by by_cases h:a=b<;>simp [h]
theorem xm {wrap:Bool} {k:IntKind} {n:Int} {r:SV} (h:(arith wrap k n).ah r):r= .c (.int k (k.wrap n)):=by
 unfold arith at h;split at h
 ·rw [T.ak,T.ad] at h;rw [←h.2,IntWalk.i64_in n h.1]
 ·rw [T.ad] at h;exact h.symm
theorem je {wrap:Bool} {k:IntKind} {n:Int} {r:SV} (h:(arith wrap k n).ah r):aS env N r (.int k (k.wrap n)):=by
 rw [xm h];rfl
theorem lL (l:List UInt8):(⟨l.toArray⟩:ByteArray).toList=l:=by rw [ByteArray.toList_eq]
theorem gV (l:List UInt8):(⟨l.toArray⟩:ByteArray).size=l.length:=by
 show l.toArray.size=_;simp
theorem C5 (a b:List UInt8):(⟨a.toArray⟩:ByteArray)++⟨b.toArray⟩=⟨(a++b).toArray⟩:=by
 apply ByteArray.ext;show (ByteArray.append _ _).data=_;simp [ByteArray.append_eq]
theorem xq {wrap:Bool} {op:BinOp} {x y r:SV} {u v:Value} (h:(S5 wrap op x y).ah r) (hx:aS env N x u) (hy:aS env N y v) (t:TypeId):
 (∃a b,u= .int a b)∨(∃s,u= .string s)→∃gU,(∀w,(binOp op t u v).run P w= .ok gU w)∧aS env N r gU:=by
 intro _;unfold S5 at h;split at h
 ·rename_i k a k' b;have hu:u= .int k a:=hx;have hv:v= .int k' b:=hy;subst hu hv;split at h
  ·rw [T.ak,T.ad] at h;obtain ⟨h0,rfl⟩:=h;exact ⟨_,fun w=>by simp [binOp,Op.shift,show ¬b < 0 by omega],rfl⟩
  ·rw [T.ak,T.ad] at h;obtain ⟨h0,rfl⟩:=h;exact ⟨_,fun w=>by simp [binOp,Op.shift,show ¬b < 0 by omega],rfl⟩
  ·split at h
   ·rename_i hk;subst hk;split at h
    ·exact ⟨_,fun w=>by simp [binOp,Op.intArith],je h⟩
    ·exact ⟨_,fun w=>by simp [binOp,Op.intArith],je h⟩
    ·exact ⟨_,fun w=>by simp [binOp,Op.intArith],je h⟩
    ·rw [T.ak] at h;exact ⟨_,fun w=>by simp [binOp,Op.intDiv,h.1],je h.2⟩
    ·rw [T.ak,T.ad] at h;obtain ⟨h0,rfl⟩:=h;exact ⟨_,fun w=>by simp [binOp,Op.intDiv,h0],rfl⟩
    ·rw [T.ad] at h;subst h;exact ⟨_,fun w=>by simp [binOp,intBits_and],rfl⟩
    ·rw [T.ad] at h;subst h;exact ⟨_,fun w=>by simp [binOp,intBits_or],rfl⟩
    ·rw [T.ad] at h;subst h;exact ⟨_,fun w=>by simp [binOp,intBits_xor],rfl⟩
    ·rw [T.ad] at h;subst h;exact ⟨_,fun w=>by simp [binOp,intBits_andNot],rfl⟩
    ·simp only [cM,T.ad] at h;subst h;exact ⟨.bool _,fun w=>by simp [binOp,Op.intCmp,iR],rfl⟩
    ·simp only [cM,T.ad] at h;subst h;exact ⟨.bool _,fun w=>by simp [binOp,Op.intCmp,iR,bne],rfl⟩
    ·simp only [cM,T.ad] at h;subst h;exact ⟨.bool _,fun w=>by simp [binOp,Op.intCmp],rfl⟩
    ·simp only [cM,T.ad] at h;subst h;exact ⟨.bool _,fun w=>by simp [binOp,Op.intCmp],rfl⟩
    ·simp only [cM,T.ad] at h;subst h;exact ⟨.bool _,fun w=>by simp [binOp,Op.intCmp],rfl⟩
    ·simp only [cM,T.ad] at h;subst h;exact ⟨.bool _,fun w=>by simp [binOp,Op.intCmp],rfl⟩
    ·exact h.elim
   ·exact h.elim
 ·rename_i a b;have hu:u= .string ⟨a.toArray⟩:=hx;have hv:v= .string ⟨b.toArray⟩:=hy;subst hu hv;split at h
  ·rw [T.ak,T.ad] at h;obtain ⟨h0,rfl⟩:=h;refine ⟨.string ⟨(a++b).toArray⟩,fun w=>?_,rfl⟩;simp only [binOp,Op.stringOp,gV,C5];rw [if_neg (by simp [IntKind.max,IntKind.signed,IntKind.bits];omega)];rfl
  all_goals first | exact h.elim | skip
  all_goals
   simp only [cM,T.ad] at h;subst h;refine ⟨_,fun w=>by simp only [binOp,Op.stringOp,lL];rfl,?_⟩;simp [aS,fi,bZ,iR]
 ·exact h.elim
end
end Sym
end Go.Proofs.YtcjagpfbhnmggaaGreatDoor
