/- Parts of the proof. -/
import Derived.Test.YtcjagpfbhnmggaaGreatDoorBd35
namespace Go.Proofs.YtcjagpfbhnmggaaGreatDoor
namespace Sym
open Go.RowKit
section
variable {cod:Nat→aO}
theorem Good.change {env:Env} {H:Heap cod} {w w':World} {M:Nat→Prop} {h:Nat} {o o':av cod} (G:Good env H w M) (ho:H[h]? =some o) (hw:o.wr=true) (x':HV) (hs:w.heap.size≤w'.heap.size) (hk:∀b,b < w.heap.size→¬o.has (env h) b→w'.heap[b]? =w.heap[b]?)
 (jS:bH (env.set h x') H.length x' w' M (o'.aX (Cell.bR [h]))) (hu:∀b,o'.has x' b→o.has (env h) b∨w.heap.size≤b):Good (env.set h x') ((H.set h o').map (av.aX (Cell.bR [h]))) w' M:=by
 have cI:h < H.length:=(List.getElem?_eq_some_iff.1 ho).1;have mz:kf H.length [h] env (env.set h x'):=fun q _ bP=>Env.aD _ _ (by rintro rfl;exact bP (by simp))
 have aL:∀k a,((H.set h o').map (av.aX (Cell.bR [h])))[k]? =some a→(k≠h∧∃b,H[k]? =some b∧a=b.aX (Cell.bR [h]))∨(k=h∧a=o'.aX (Cell.bR [h])):=by
  intro k a ha;rw [List.getElem?_map] at ha;by_cases e:k=h
  ·subst e;rw [List.getElem?_set_self cI] at ha;simp only [Option.map_some,Option.some.injEq] at ha;exact .inr ⟨rfl,ha.symm⟩
  ·rw [List.getElem?_set_ne (by omega)] at ha;obtain ⟨b,h1,h2⟩:=Option.map_eq_some_iff.1 ha;exact .inl ⟨e,b,h1,h2.symm⟩
 refine ⟨fun k a ha=>?_,fun k k' a a' c bP ha Pq uS hc cY=>?_,G.sr.bG (fun p _ hl hn=>hk _ hl fun e=>hn (cR (G.obj h _ ho) hw e)) fun _ _ _ h=>h⟩
 ·rw [List.length_map,List.length_set];rcases aL k a ha with ⟨bP,b,h1,rfl⟩ | ⟨rfl,rfl⟩
  ·rw [Env.aD _ _ bP];refine dx (fun c v Rq=>eV (Nat.le_refl _) mz Rq) (ff (G.obj k b h1) hs fun c hc=>?_);have cI:=bi (G.obj k b h1) hc;exact hk c cI fun e=>G.sep h k _ b c (Ne.symm bP) ho h1 hw e hc
  ·rw [Env.aU];exact jS
 ·rcases aL k a ha with ⟨h1,b,h2,rfl⟩ | ⟨rfl,rfl⟩<;>rcases aL k' a' Pq with ⟨jj,b',oQ,rfl⟩ | ⟨rfl,rfl⟩
  ·rw [Env.aD _ _ h1,cu] at hc;rw [Env.aD _ _ jj,cu] at cY;rw [fT] at uS;exact G.sep k k' b b' c bP h2 oQ uS hc cY
  ·rw [Env.aD _ _ h1,cu] at hc;rw [Env.aU,cu] at cY;rw [fT] at uS;have cI:=bi (G.obj k b h2) hc;rcases hu c cY with cY | cY
   ·exact G.sep k k' b _ c bP h2 ho uS hc cY
   ·omega
  ·rw [Env.aU,cu] at hc;rw [Env.aD _ _ jj,cu] at cY;have cI:=bi (G.obj k' b' oQ) cY;rcases hu c hc with hc | hc
   ·exact G.sep k k' _ b' c bP ho oQ hw hc cY
   ·omega
  ·exact bP rfl
theorem uB.app {P:Program} {b0:aC} {o:Oper} {st:St cod} {x y:Operand} {ts:Array TypeId} {T ty tyr tb:TypeId} {h b n t B:Nat} {LL:List (List (cod t).α)} {c:Cell}
 (YY:o.op= .call ⟨.builtin .append,#[x,y],ts⟩) (ht1:ts[0]? =some T) (ht2:ts[1]? =some T) (hT:P.underlying T=some (.slice ty))
 (hz:(P.info? ty).map (fun i=>(i.zero.map fun z=>z.cells.size,i.size,i.bytes))=some (some 1,1,B)) (hB:B≤100000)
 (hx:cD st.tmps x= .c (.own h n)) (hy:cD st.tmps y= .c (.ai b 0 1 true))
 (hh:getObj st.heap h= .cj t LL [] [] ty tyr) (hb:getObj st.heap b= .aF [c] tb) (hc:c.one=true) (hn:LL.length+1≤1000000) (hN:b0.n≤h) {bg:St cod}
 (e:st.put o.dst {v:=.c (.own h (LL.length+1)),H:=(st.heap.set h (.cj t (LL++[[]]) [LL.length] [c] ty tyr)).map (av.aX (Cell.bR [h])),kill:=[h]}=bg) (Np:ty < 1000000:=by decide):uB P b0 o st bg:=by
 subst e;have acI:=aE hh (by simp);have ahX:=aE hb (by simp);have cI:h < st.heap.length:=(List.getElem?_eq_some_iff.1 acI).1;refine HW (fun env w ρ G hM hρ=>?_) (fun k hk=>by simp only [List.mem_singleton] at hk;omega) (fun k x hk hx Y3=>?_)
 ·have hu:=hρ x;have hv:=hρ y;rw [hx] at hu;rw [hy] at hv;obtain ⟨_,e9,A0,c0,Rx,hs2,hs3,hs4⟩:=hu;obtain ⟨_,A,cc,qp,hv2,hv3,_,hv5⟩:=hv;obtain ⟨h1,h2,h3,⟨vs,h4,h5,h6⟩,h7,h8,h9,Ap⟩:=G.obj h _ acI;have eO:tyO ty=ty:=if_pos Np;rw [eO] at h4;obtain ⟨p1,p2,us,p3,p4⟩:=G.obj b _ ahX
  obtain ⟨v,rfl,Rq⟩:∃v,us=[v]∧bZ env st.heap.length c v:=by
   cases p4 with
   | cons a t=>cases t;exact ⟨_,rfl,a⟩
  have hAb:=hv5 (by omega);have lR:(env b).addr 0 0=⟨(env b).block,0,none⟩:=by simp [HV.addr,p1]
  rw [lR] at hAb;obtain ⟨i,hi,hz'⟩:=Option.map_eq_some_iff.1 hz;simp only [Prod.mk.injEq] at hz';obtain ⟨UG,Y4,hz3⟩:=hz';obtain ⟨z,rv,hzc⟩:=Option.map_eq_some_iff.1 UG;have kW:=DY hc Rq
  obtain ⟨v',w',r1,r2,r3,r4,r5⟩:=jy w 0 T o.type ty i z 1 B hT hi rv Y4 hz3 hzc (by omega) (ρ x) LL.length vs (by rw [e9];exact h4) A 1 cc [v] rfl (fun _=>⟨_,hAb,fun j q hj=>by
   cases j with
   | succ j=>simp at hj
   | zero=>
     simp only [List.getElem?_cons_zero,Option.some.injEq] at hj;subst hj;have:=cell_of_row w (env b).block 0 _ _ _ p3;simpa [Addr.add] using this⟩) (by simpa using kW) (by unfold maxLen;omega) (Nat.le_trans (Nat.mul_le_mul hn hB) (by omega)) (Nat.zero_le _)
  have cW:∀cs:Array Bool,((builtin .append ts o.type cs (#[ρ x,ρ y])).run P w)= .ok (.value v') w':=fun cs=>by
   have e:(Builtin.append_ ts o.type #[ρ x,ρ y]).run P w=(Builtin.append_ #[T,T] o.type #[ρ x,.slice A 1 cc]).run P w:=by
    rw [qp];simp only [Builtin.append_,ht1,ht2,List.getElem?_toArray,List.getElem?_cons_zero,List.getElem?_cons_succ]
   simp only [builtin,Sem.run_bind,e,r1,Result.andThen_ok,Sem.run_pure]
  have aeK:((execOp ρ o).run P w)= .ok (.value v') w':=by
   unfold execOp;have em:(#[x,y]:Array Operand).map ρ=#[ρ x,ρ y]:=by simp
   simp only [YY,resolve,invoke,Sem.run_bind,Sem.run_pure,Result.andThen_ok];rw [em];exact cW _
  rw [aeK];obtain ⟨A',c',e1,e2,e3,e4,e5⟩:=tR r2;have UD:vs.length=LL.length:=by have:=h4.1;omega
  refine ⟨env.set h ⟨v'.ownBlock.getD 0,0,1,v',(env h).rows++[undef]⟩,fun q _ bP=>Env.aD _ _ (by rintro rfl;exact bP (by simp)),by simp,?_,G.change acI rfl _ r3.size (fun q hq bP=>r3.block q hq (fun e=>bP (.inl (by rw [e9] at e;exact e.symm)))) ?_ (fun q hq=>?_),(gR.refl _ w).grown r3 (cg _ _ _ _ _ r1) (fun q hq=>by rw [e9] at hq;exact h7 q hq)⟩
  ·refine ⟨by simpa using cI,by rw [Env.aU],A',c',e1,e2,e3,fun h0=>?_⟩;obtain ⟨g,hg⟩:=e5 h0;obtain ⟨g',q1,q2⟩:=e4 _ hg;rw [hg,Env.aU,q2];simp only [Addr.mk.injEq,and_true] at q1;simp [HV.addr,q1]
  ·have mz:kf st.heap.length [h] env (env.set h ⟨v'.ownBlock.getD 0,0,1,v',(env h).rows++[undef]⟩):=fun q _ bP=>Env.aD _ _ (by rintro rfl;exact bP (by simp));have afs:∀q,q < w.heap.size→(env h).val.ownBlock≠some q→w'.heap[q]? =w.heap[q]? :=fun q hq bP=>r3.block q hq (fun e=>bP (by rw [e9] at e;exact e.symm));refine ⟨rfl,rfl,⟨by simp [h3.1],by simp⟩,⟨vs++[v],by rw [eO];simpa using r2,fun j hj=>?_,fun q j c1 hq vA=>?_⟩,fun q hq=>?_,fun A1 n1 c1 hA1=>?_,fun j u l hj hju hl=>?_,fun j k u u' q hjk hj hk hu vW Ng Xs=>?_⟩
   ·have EX:j≠LL.length:=fun e=>hj (by rw [e];simp);rcases Nat.lt_or_ge j LL.length with hl | hl
    ·rw [List.getElem?_append_left (by omega),List.getElem?_append_left (by omega)];exact h5 j (by simp)
    ·rw [List.getElem?_eq_none (by simp;omega),List.getElem?_eq_none (by simp;omega)];exact .inl rfl
   ·cases q with
    | succ q=>simp at hq
    | zero=>
      simp only [List.getElem?_cons_zero,List.map_cons,Option.some.injEq] at hq vA;subst hq;subst vA;exact ⟨v,by rw [List.getElem?_append_right (by omega),UD,Nat.sub_self];rfl,eV (Nat.le_refl _) mz Rq⟩
   ·rcases r5 with r5 | r5
    ·rw [r5,e9] at hq;exact h7 q hq
    ·rw [r5] at hq;simp only [Option.some.injEq] at hq;exact hM q (by omega)
   ·rw [e1] at hA1;simp only [Value.slice.injEq] at hA1;obtain ⟨rfl,_,_⟩:=hA1;obtain ⟨g',q1,q2⟩:=e4 _ rfl;rw [q2,q1];rfl
   ·have EX:j≠LL.length:=fun e=>hj (by rw [e];simp)
    have hjl:j < LL.length:=by
     have:=(List.getElem?_eq_some_iff.1 hl).1;simp at this;omega
    rw [List.getElem?_append_left (by omega)] at hju hl;obtain ⟨q1,q2⟩:=h9 j u l (by simp) hju hl;refine ⟨lX q1 fun c hc=>afs c (gK q1 hc).2 (q2 c hc).2,fun c hc=>⟨(q2 c hc).1,fun kU=>?_⟩⟩;have J5:=(gK q1 hc).2;rcases r5 with r5 | r5
    ·have kU:v'.ownBlock=some c:=kU;rw [r5,e9] at kU;exact (q2 c hc).2 kU
    ·have kU:v'.ownBlock=some c:=kU;rw [r5] at kU;simp only [Option.some.injEq] at kU;omega
   ·have EX:j≠LL.length:=fun e=>hj (by rw [e];simp);have tE:k≠LL.length:=fun e=>hk (by rw [e];simp);have l1:=(List.getElem?_eq_some_iff.1 hu).1;have l2:=(List.getElem?_eq_some_iff.1 vW).1;simp only [List.length_append,List.length_singleton] at l1 l2;rw [List.getElem?_append_left (by omega)] at hu vW;exact Ap j k u u' q hjk (by simp) (by simp) hu vW Ng Xs
  ·rcases hq with hq | ⟨j,u,hu,hj,hq⟩
   ·have hq:v'.ownBlock=some q:=hq;rcases r5 with r5 | r5
    ·rw [r5,e9] at hq;exact .inl (.inl hq)
    ·rw [r5] at hq;simp only [Option.some.injEq] at hq;exact .inr (by omega)
   ·have EX:j≠LL.length:=fun e=>hj (by rw [e];simp);have l1:=(List.getElem?_eq_some_iff.1 hu).1;simp only [List.length_append,List.length_singleton] at l1;rw [List.getElem?_append_left (by omega)] at hu;exact .inl (.inr ⟨j,u,hu,by simp,hq⟩)
 ·simp only [List.getElem?_map] at hx;rw [List.getElem?_set_ne (by omega)] at hx;obtain ⟨y,hy,rfl⟩:=Option.map_eq_some_iff.1 hx;rw [j7] at Y3;exact ⟨y,hy,Y3⟩
end
end Sym
section
open Sym Go.RowKit
noncomputable section
set_option maxRecDepth 100000
set_option maxHeartbeats 4000000
namespace F
noncomputable def sqc (t:dT) (s:Sp):Int:=min ((iw t.x t.y s.2.1 s.2.2.1).tdiv 10000) 1073741824
noncomputable def tu (band:Int) (t:dT) (s:Sp):Int:=if fit t s band=true then sqc t s else -1
noncomputable def ZR (f:Sp→Int) (s:List Sp):Nat→List Int
 | 0=>List.replicate s.length 0
 | k+1=>(ZR f s k).set k (f (s.getD k dq))
noncomputable def jB (l:List dT) (s:List Sp) (band:Int):List (List Int):=l.map fun t=>s.map (tu band t)
noncomputable def Qg (l:List dT) (s:List Sp) (band:Int):Prop:=l.length≤32∧s.length≤32∧(l=[]∨0 < s.length)∧∀t∈l,∀x∈s,G3 t x band
end F
noncomputable def R18:Array Oper:=ZE (bu Tryz.f25 18)
noncomputable def dL:bA:=[(5,[2,1,24,25,26,8],3),(9,[10,11,2,33,1,24,25,26,8,34,35],5),(100018,[2,1,24,25,26,11,8],5)]
theorem Tu (l:List F.dT) (aA:Bool) (s:List (Int×Int×Int×Int×Int×Int)) (cZ:Bool) (band:Int):aI gq dL Tryz.f25.results.toList 2 400 [.code (aj Tryz.f25)] ⟨ay Tryz.f25 [.c (.ai 0 0 l.length aA),.c (.ai 1 0 s.length cZ),.c (.int .i64 band)],([.aB 5 l,.aB 2 s]:Heap cod)⟩=
 (let q0:=List.length l;
 cond (decide (32 < Int.ofNat q0)) (.ret (.fin (.aP [.c (.nil),.c (.int .i64 2)]) [])) (cond (decide (32 < Int.ofNat s.length)) (.ret (.fin (.aP [.c (.nil),.c (.int .i64 2)]) [])) (.ret (.cut (cutAt Tryz.f25 5) ⟨bc 44 [(1,.c (.ai 1 0 s.length cZ)),(0,.c (.int .i64 band)),(5,.c (.nil)),(15,.c (.ai 0 0 q0 aA)),(0,.c (.int .i64 (Int.ofNat q0))),(0,.c (.int .i64 0))],[.aB 5 l,.aB 2 s]⟩)))):=by kernel_rfl
noncomputable def fS (l:List F.dT) (aA:Bool) (s:List (Int×Int×Int×Int×Int×Int)) (cZ:Bool) (band:Int) (LL:List (List Int)) (k:Int):St cod:=⟨bc 44 [(1,.c (.ai 1 0 s.length cZ)),(0,.c (.int .i64 band)),(5,.c (.own 2 LL.length)),(15,.c (.ai 0 0 l.length aA)),(0,.c (.int .i64 (Int.ofNat l.length))),(0,.c (.int .i64 k))],([.aB 5 l,.aB 2 s,.cj 0 LL [] [] 22 3]:Heap cod)⟩
theorem FL (l:List F.dT) (aA:Bool) (s:List (Int×Int×Int×Int×Int×Int)) (cZ:Bool) (band:Int) (LL:List (List Int)) (k:Int):aI gq dL Tryz.f25.results.toList 2 400 (cutAt Tryz.f25 5) (fS l aA s cZ band LL k)=
 (let q0:=List.getD l (0+Int.toNat k) (cod 5).d;
 let q1:=List.length s;
 let q2:=List.length l;
 cond (decide (k < Int.ofNat q2)) (.aa (((0:Int)≤k∧k < Int.ofNat q2)) (.aa (0+Int.toNat k < List.length l) (.aa (((0:Int)≤Int.ofNat q1∧(Int.ofNat q1≤1000000∧Int.ofNat q1=Int.ofNat q1))) (.ret (.cut (cutAt Tryz.f25 9) ⟨bc 35 [(1,.c (.ai 1 0 q1 cZ)),(0,.c (.int .i64 band)),(5,.c (.own 2 LL.length)),(1,.c (.ptr 3 0 0)),(0,.c (.ai 4 0 (Int.ofNat q1).toNat true)),(12,.c (.ai 0 0 q2 aA)),(0,.c (.int .i64 (Int.ofNat q2))),(0,.c (.int .i64 k)),(6,.c (.ai 1 0 q1 cZ)),(0,.c (.int .i64 (Int.ofNat q1))),(0,.c (.int .i64 0))],[.aB 5 l,.aB 2 s,.cj 0 (LL) [] [] 22 3,.aF [.int .i64 (q0.id),.int .i64 (q0.st),.int .i64 (q0.tm),.int .i64 (q0.x),.int .i64 (q0.y),.int .i64 (q0.sx),.int .i64 (q0.sy),.int .i64 (q0.hg),.int .i64 (q0.rt),.int .i64 (q0.ra),.int .i64 (q0.cd),.int .i64 (q0.ht),.int .i64 (q0.ms)] 50,.arr 0 (List.replicate (Int.ofNat q1).toNat (0:Int)) 3]⟩))))) (.ret (.fin (.aP [.c (.own 2 LL.length),.c (.int .i64 0)]) [.cj 0 (LL) [] [] 22 3]))):=by kernel_rfl
noncomputable def zx (l:List F.dT) (aA:Bool) (s:List (Int×Int×Int×Int×Int×Int)) (cZ:Bool) (band:Int) (LL:List (List Int)) (k:Int) (t:F.dT) (r:List Int) (m:Int):St cod:=⟨bc 35 [(1,.c (.ai 1 0 s.length cZ)),(0,.c (.int .i64 band)),(5,.c (.own 2 LL.length)),(1,.c (.ptr 3 0 0)),(0,.c (.ai 4 0 s.length true)),(12,.c (.ai 0 0 l.length aA)),(0,.c (.int .i64 (Int.ofNat l.length))),(0,.c (.int .i64 k)),(6,.c (.ai 1 0 s.length cZ)),(0,.c (.int .i64 (Int.ofNat s.length))),(0,.c (.int .i64 m))],([.aB 5 l,.aB 2 s,.cj 0 LL [] [] 22 3,.aF [.int .i64 t.id,.int .i64 t.st,.int .i64 t.tm,.int .i64 t.x,.int .i64 t.y,.int .i64 t.sx,.int .i64 t.sy,.int .i64 t.hg,.int .i64 t.rt,.int .i64 t.ra,.int .i64 t.cd,.int .i64 t.ht,.int .i64 t.ms] 50,.arr 0 r 3]:Heap cod)⟩
theorem FM (l:List F.dT) (aA:Bool) (s:List (Int×Int×Int×Int×Int×Int)) (cZ:Bool) (band:Int) (LL:List (List Int)) (k:Int) (t:F.dT) (r:List Int) (m:Int):aI gq dL Tryz.f25.results.toList 2 400 (cutAt Tryz.f25 9) (zx l aA s cZ band LL k t r m)=
 (let q0:av cod:=.aF [.int .i64 t.id,.int .i64 t.st,.int .i64 t.tm,.int .i64 t.x,.int .i64 t.y,.int .i64 t.sx,.int .i64 t.sy,.int .i64 t.hg,.int .i64 t.rt,.int .i64 t.ra,.int .i64 t.cd,.int .i64 t.ht,.int .i64 t.ms] 50;
 let q1:=List.getD s (0+Int.toNat m) (cod 2).d;
 let q2:=List.length s;
 let q3:=List.length l;
 let q4:=List.set r (0+Int.toNat m) (-1);
 let q5:=F.iw t.x t.y q1.2.1 q1.2.2.1;
 let q6:=List.length LL;
 cond (decide (m < Int.ofNat q2)) (.aa (((0:Int)≤m∧m < Int.ofNat q2)) (.aa (0+Int.toNat m < List.length s) (.aa (F.G3 t q1 band) (.aa (((0:Int)≤m∧m < Int.ofNat q2)) (.aa (0+Int.toNat m < List.length r) (cond (F.fit t q1 band) (.aa ((F.b9 t.x∧(F.b9 t.y∧(F.b9 q1.2.1∧F.b9 q1.2.2.1)))) (.aa ((10000:Int)≠0) (.aa (ae (Int.tdiv q5 10000)) (.aa (((0:Int)≤m∧m < Int.ofNat q2)) (.aa (0+Int.toNat m < List.length q4) (.aa (ae (m+1)) (.ret (.cut (cutAt Tryz.f25 9) ⟨bc 35 [(1,.c (.ai 1 0 q2 cZ)),(0,.c (.int .i64 band)),(5,.c (.own 2 q6)),(1,.c (.ptr 3 0 0)),(0,.c (.ai 4 0 q2 true)),(12,.c (.ai 0 0 q3 aA)),(0,.c (.int .i64 (Int.ofNat q3))),(0,.c (.int .i64 k)),(6,.c (.ai 1 0 q2 cZ)),(0,.c (.int .i64 (Int.ofNat q2))),(0,.c (.int .i64 (m+1)))],[.aB 5 l,.aB 2 s,.cj 0 (LL) [] [] 22 3,q0,.arr 0 (List.set q4 (0+Int.toNat m) (min (Int.tdiv q5 10000) 1073741824):List Int) 3]⟩)))))))) (.aa (ae (m+1)) (.ret (.cut (cutAt Tryz.f25 9) ⟨bc 35 [(1,.c (.ai 1 0 q2 cZ)),(0,.c (.int .i64 band)),(5,.c (.own 2 q6)),(1,.c (.ptr 3 0 0)),(0,.c (.ai 4 0 q2 true)),(12,.c (.ai 0 0 q3 aA)),(0,.c (.int .i64 (Int.ofNat q3))),(0,.c (.int .i64 k)),(6,.c (.ai 1 0 q2 cZ)),(0,.c (.int .i64 (Int.ofNat q2))),(0,.c (.int .i64 (m+1)))],[.aB 5 l,.aB 2 s,.cj 0 (LL) [] [] 22 3,q0,.arr 0 (List.set r (0+Int.toNat m) (-1):List Int) 3]⟩))))))))) (.ret (.cut (bu Tryz.f25 18) ⟨bc 44 [(1,.c (.ai 1 0 q2 cZ)),(0,.c (.int .i64 band)),(5,.c (.own 2 q6)),(2,.c (.ai 4 0 q2 true)),(12,.c (.ai 0 0 q3 aA)),(0,.c (.int .i64 (Int.ofNat q3))),(0,.c (.int .i64 k))],[.aB 5 l,.aB 2 s,.cj 0 (LL) [] [] 22 3,q0,.arr 0 r 3]⟩))):=by kernel_rfl
noncomputable def rQ (l:List F.dT) (aA:Bool) (s:List (Int×Int×Int×Int×Int×Int)) (cZ:Bool) (band:Int) (LL:List (List Int)) (k:Int) (t:F.dT) (r:List Int):St cod:=⟨bc 44 [(1,.c (.ai 1 0 s.length cZ)),(0,.c (.int .i64 band)),(5,.c (.own 2 LL.length)),(2,.c (.ai 4 0 s.length true)),(12,.c (.ai 0 0 l.length aA)),(0,.c (.int .i64 (Int.ofNat l.length))),(0,.c (.int .i64 k))],[.aB 5 l,.aB 2 s,.cj 0 (LL) [] [] 22 3,.aF [.int .i64 t.id,.int .i64 t.st,.int .i64 t.tm,.int .i64 t.x,.int .i64 t.y,.int .i64 t.sx,.int .i64 t.sy,.int .i64 t.hg,.int .i64 t.rt,.int .i64 t.ra,.int .i64 t.cd,.int .i64 t.ht,.int .i64 t.ms] 50,.arr 0 r 3]⟩
theorem Yk (l:List F.dT) (aA:Bool) (s:List (Int×Int×Int×Int×Int×Int)) (cZ:Bool) (band:Int) (LL:List (List Int)) (k:Int):aI gq dL Tryz.f25.results.toList 2 400 (bu Tryz.f25 18).tail (fS l aA s cZ band LL k)=
.aa (ae (k+1)) (
.ret (.cut (cutAt Tryz.f25 5) ⟨bc 44 [(1,.c (.ai 1 0 s.length cZ)),(0,.c (.int .i64 band)),(5,.c (.own 2 LL.length)),(15,.c (.ai 0 0 l.length aA)),(0,.c (.int .i64 (Int.ofNat l.length))),(0,.c (.int .i64 (k+1)))],[.aB 5 l,.aB 2 s,.cj 0 (LL) [] [] 22 3]⟩)):=by kernel_rfl
noncomputable def nN (l:List F.dT) (aA:Bool) (s:List (Int×Int×Int×Int×Int×Int)) (cZ:Bool) (band:Int) (LL:List (List Int)) (k:Int) (t:F.dT) (r:List Int):St cod:=⟨bc 3 [(1,.c (.ai 1 0 s.length cZ)),(0,.c (.int .i64 band)),(5,.c (.own 2 LL.length)),(2,.c (.ai 4 0 s.length true)),(12,.c (.ai 0 0 l.length aA)),(0,.c (.int .i64 (Int.ofNat l.length))),(0,.c (.int .i64 k)),(38,.c (.own 2 LL.length)),(0,.c (.ai 4 0 s.length true)),(0,.c (.ai 5 0 1 true))],[.aB 5 l,.aB 2 s,.cj 0 (LL) [] [] 22 3,.aF [.int .i64 t.id,.int .i64 t.st,.int .i64 t.tm,.int .i64 t.x,.int .i64 t.y,.int .i64 t.sx,.int .i64 t.sy,.int .i64 t.hg,.int .i64 t.rt,.int .i64 t.ra,.int .i64 t.cd,.int .i64 t.ht,.int .i64 t.ms] 50,.arr 0 r 3,.aF [.ai 4 0 s.length true] 22]⟩
theorem Tv (l:List F.dT) (aA:Bool) (s:List (Int×Int×Int×Int×Int×Int)) (cZ:Bool) (band:Int) (LL:List (List Int)) (k:Int) (t:F.dT) (r:List Int):lT gq (R18.toList.take 3) (rQ l aA s cZ band LL k t r)= .ret (nN l aA s cZ band LL k t r):=by kernel_rfl
noncomputable def O18:Oper:=R18.toList.getD 3 default
theorem abt:O18.op= .call ⟨.builtin .append,#[.tmp 65,.tmp 67],#[84,84]⟩:=by kernel_rfl
theorem XH:O18.dst=some 68:=by kernel_rfl
theorem abz:bu Tryz.f25 18= .code (.region (idI (bu Tryz.f25 18)) R18 false)::(bu Tryz.f25 18).tail:=by kernel_rfl
theorem Ov:R18.toList=R18.toList.take 3++O18::R18.toList.drop 4:=by kernel_rfl
theorem SK:(R18.toList.all fun o=>o.guard.isNone)=true:=by kernel_rfl
theorem TLI:Tryz.prog.underlying 84=some (.slice 22):=by kernel_rfl
theorem ZLI:(Tryz.prog.info? 22).map (fun i=>(i.zero.map fun z=>z.cells.size,i.size,i.bytes))=some (some 1,1,24):=by kernel_rfl
noncomputable def j9 (l:List F.dT) (aA:Bool) (s:List (Int×Int×Int×Int×Int×Int)) (cZ:Bool) (band:Int) (LL:List (List Int)) (k:Int) (t:F.dT) (r:List Int):St cod:=(nN l aA s cZ band LL k t r).put (some 68) {v:=.c (.own 2 (LL.length+1)),H:=((nN l aA s cZ band LL k t r).heap.set 2 (.cj 0 (LL++[[]]) [LL.length] [.ai 4 0 s.length true] 22 3)).map (av.aX (Cell.bR [2])),kill:=[2]}
noncomputable def ke (l:List F.dT) (aA:Bool) (s:List (Int×Int×Int×Int×Int×Int)) (cZ:Bool) (band:Int) (LL:List (List Int)) (k:Int) (t:F.dT) (r:List Int):St cod:=(j9 l aA s cZ band LL k t r).put (some 8) {v:=.c (.own 2 (LL.length+1)),H:=(j9 l aA s cZ band LL k t r).heap}
theorem Tw (l:List F.dT) (aA:Bool) (s:List (Int×Int×Int×Int×Int×Int)) (cZ:Bool) (band:Int) (LL:List (List Int)) (k:Int) (t:F.dT) (r:List Int):lT gq (R18.toList.drop 4) (j9 l aA s cZ band LL k t r)= .ret (ke l aA s cZ band LL k t r):=by kernel_rfl
theorem NF {α:Type} (L:List α) (x:α):L.length < (L++[x]).length:=by simp
theorem Hu {α:Type} (L:List α) (x y:α):(L++[x]).set L.length y=L++[y]:=by
 rw [List.set_append];simp
theorem QH {t:Nat} {tyr:TypeId} {H:Heap cod} {r m:Nat} {l:List (cod t).α} (ho:Sym.getObj H r= .arr t l tyr) (hm:m=l.length) (h0:0 < m):rowOf t tyr H (.ai r 0 m true)=some (r,l):=by
 unfold rowOf;simp only [ho];rw [dif_pos trivial,if_pos ⟨trivial,hm,h0⟩]
theorem OM {t h j r:Nat} {ty tyr:TypeId} {st:St cod} {LL:List (List (cod t).α)} {js:List Nat} {c:Cell} {cs:List Cell} {l:List (cod t).α} (ho:Sym.getObj st.heap h= .cj t LL (j::js) (c::cs) ty tyr) (hr:rowOf t tyr st.heap c=some (r,l)):st.jA h={st with heap:=(st.heap.set h (.cj t (LL.set j l) js cs ty tyr)).set r .dead}:=by
 unfold St.jA;rw [ho];simp only [hr]
noncomputable def nO (l:List F.dT) (aA:Bool) (s:List (Int×Int×Int×Int×Int×Int)) (cZ:Bool) (band:Int) (LL:List (List Int)) (k:Int) (t:F.dT) (r:List Int):St cod:={(ke l aA s cZ band LL k t r) with heap:=(((ke l aA s cZ band LL k t r).heap.set 2 (.cj 0 ((LL++[[]]).set LL.length r) [] [] 22 3)).set 4 .dead)}
theorem Tx (l:List F.dT) (aA:Bool) (s:List (Int×Int×Int×Int×Int×Int)) (cZ:Bool) (band:Int) (LL:List (List Int)) (k:Int) (t:F.dT) (r:List Int):(nO l aA s cZ band LL k t r).fit [1,2,8,24,25,26] 3=⟨bc 44 [(1,.c (.ai 1 0 s.length cZ)),(0,.c (.int .i64 band)),(5,.c (.own 2 (LL.length+1))),(15,.c (.ai 0 0 l.length aA)),(0,.c (.int .i64 (Int.ofNat l.length))),(0,.c (.int .i64 k))],[.aB 5 l,.aB 2 s,.cj 0 ((LL++[[]]).set LL.length r) [] [] 22 3]⟩:=by kernel_rfl
theorem OT (l:List F.dT) (aA:Bool) (s:List (Int×Int×Int×Int×Int×Int)) (cZ:Bool) (band:Int) (LL:List (List Int)) (k:Int) (t:F.dT) (r:List Int) {b0:aC} (hb:b0.n=2) {Q:St cod→Prop} (h1:0 < s.length) (h2:LL.length+1≤1000000) (hr:s.length=r.length)
 (hk:Sym.af Tryz.prog b0 (bu Tryz.f25 18).tail (fS l aA s cZ band (LL++[r]) k) Q):Sym.af Tryz.prog b0 (bu Tryz.f25 18) (rQ l aA s cZ band LL k t r) Q:=by
 refine af.mid (cfg:=gq) fj abz Ov SK (Tv l aA s cZ band LL k t r) ?_;refine ⟨j9 l aA s cZ band LL k t r,?_,?_⟩
 ·refine uB.app (b:=5) (h:=2) (n:=LL.length) (c:=.ai 4 0 s.length true) (T:=84) (ty:=22) (tyr:=3) (t:=0) (LL:=LL) (tb:=22) (B:=24) abt rfl rfl TLI ZLI (by omega) rfl rfl rfl rfl rfl h2 (by omega) ?_;rw [XH];rfl
 ·rw [Tw];have gF:rowOf 0 3 (ke l aA s cZ band LL k t r).heap (.ai 4 0 s.length true)=some (4,r):=QH rfl hr h1;refine af.jA 2 (j:=LL.length) (r:=4) (N:=2) hb (t:=0) (LL:=LL++[[]]) (js:=[]) (c:=.ai 4 0 s.length true) (cs:=[]) (ty:=22) (tyr:=3) (l:=r) rfl (NF LL []) List.not_mem_nil gF (by omega) (by omega) (bg:=nO l aA s cZ band LL k t r) (OM (t:=0) (LL:=LL++[[]]) (j:=LL.length) (js:=[]) (c:=.ai 4 0 s.length true) (cs:=[]) (ty:=22) (tyr:=3) (l:=r) rfl gF) ?_;refine af.weaken (fun a w hR=>?_) hk
  have e4:(nO l aA s cZ band LL k t r).fit [1,2,8,24,25,26] 3=fS l aA s cZ band (LL++[r]) k:=by
   rw [Tx,Hu];unfold fS;rw [List.length_append];rfl
  rw [←e4];exact oh _ _ (by omega) hR
theorem wi (f:F.Sp→Int) (s:List F.Sp):∀k,(F.ZR f s k).length=s.length
 | 0=>List.length_replicate
 | k+1=>by unfold F.ZR;rw [List.length_set,wi f s k]
theorem NT (f:F.Sp→Int) (s:List F.Sp):∀(k:Nat),k≤s.length→∀j,j < k→(F.ZR f s k)[j]? =some (f (s.getD j F.dq))
 | 0,_,j,h=>by omega
 | k+1,hk,j,h=>by
   unfold F.ZR;rw [List.getElem?_set];by_cases e:k=j
   ·subst e;rw [if_pos rfl,if_pos (by rw [wi];omega)]
   ·rw [if_neg e];exact NT f s k (by omega) j (by omega)
theorem ZS (f:F.Sp→Int) (s:List F.Sp):F.ZR f s s.length=s.map f:=by
 apply List.ext_getElem?;intro j;by_cases h:j < s.length
 ·rw [NT f s _ (Nat.le_refl _) j h,List.getElem?_map,List.getElem?_eq_getElem h,List.getD_eq_getElem?_getD,List.getElem?_eq_getElem h];rfl
 ·rw [List.getElem?_eq_none (by rw [wi];omega),List.getElem?_eq_none (by rw [List.length_map];omega)]
theorem Tt (l:List F.dT) (aA:Bool) (s:List (Int×Int×Int×Int×Int×Int)) (cZ:Bool) (band:Int) (qo:F.Qg l s band) (h0:0 < s.length) (b0:aC) (hb:b0.n=2) (R LL:List (List Int)) (hLL:LL.length≤100) (k:Int) (t:F.dT) (ht:∀x∈s,F.G3 t x band)
 (nx:Sym.af Tryz.prog b0 (bu Tryz.f25 18).tail (fS l aA s cZ band (LL++[s.map (F.tu band t)]) k) (Sym.Ends Tryz.prog Tryz.f25 2 (.aP [.c (.own 2 R.length),.c (.int .i64 0)]) [.cj 0 R [] [] 22 3])):∀(q m:Nat),m+q=s.length→
 Sym.af Tryz.prog b0 (cutAt Tryz.f25 9) (zx l aA s cZ band LL k t (F.ZR (F.tu band t) s m) (m:Int)) (Sym.Ends Tryz.prog Tryz.f25 2 (.aP [.c (.own 2 R.length),.c (.int .i64 0)]) [.cj 0 R [] [] 22 3]):=by
 intro q
 induction q with
 | zero=>
   intro m hm;have em:m=s.length:=by omega
   refine af.go (cfg:=gq) fj mixed dL 400 hb (FM l aA s cZ band LL k t _ (m:Int)) ?_;simp only [T.wp,T.wp_cond,bF];refine ap (by rw [decide_eq_false (by simp only [Int.ofNat_eq_natCast];omega)];decide) ?_;rw [em,ZS]
   exact OT l aA s cZ band LL k t _ hb h0 (by omega) (by rw [List.length_map]) nx
 | succ q ih=>
   intro m hm;have hms:m < s.length:=by omega
   have fK:=ih (m+1) (by omega);rw [Int.natCast_succ] at fK;have hl:=qo.2.1;have hf:=ht _ (dM hms);obtain ⟨f1,f2,f3,f4⟩:=hf;unfold F.ctk at f1;have f1':=zQ f1;have f2':=lz f2;have hlen:=wi (F.tu band t) s m;have e1:F.ZR (F.tu band t) s (m+1)=(F.ZR (F.tu band t) s m).set m (F.tu band t (s.getD m F.dq)):=rfl;rw [e1] at fK;have ed:(cod 2).d=F.dq:=rfl;refine af.go (cfg:=gq) fj mixed dL 400 hb (FM l aA s cZ band LL k t _ (m:Int)) ?_;simp only [T.wp,T.wp_cond,bF,Int.toNat_natCast,Nat.zero_add];rw [ed];have Ru:(0:Int)≤(m:Int)∧(m:Int) < Int.ofNat s.length:=by simp only [Int.ofNat_eq_natCast];omega
   have mi:ae ((m:Int)+1):=by unfold ae;omega
   refine aq (decide_eq_true Ru.2) ⟨Ru,hms,ht _ (dM hms),Ru,by omega,?_⟩;unfold F.tu at fK
   cases aeL:F.fit t (s.getD m F.dq) band with
   | true=>
     rw [aeL,if_pos rfl] at fK;generalize s.getD m F.dq=x at*;obtain ⟨g1,g2,g3,g4,g5⟩:=F6 (x:=t.x) (y:=t.y) (u:=x.2.1) (v:=x.2.2.1) (by unfold F.b9;omega) (by unfold F.b9;omega) (by unfold F.b9;omega) (by unfold F.b9;omega);have hd:=EP (F.iw t.x t.y x.2.1 x.2.2.1) 10000 (by omega) g5;refine aq rfl ⟨⟨by unfold F.b9;omega,by unfold F.b9;omega,by unfold F.b9;omega,by unfold F.b9;omega⟩,by decide,hd,Ru,by rw [List.length_set];omega,mi,?_⟩;rw [List.set_set]
     exact fK
   | false=>
     rw [aeL,if_neg (by decide)] at fK;exact ap (by decide) ⟨mi,fK⟩
theorem Ts (l:List F.dT) (aA:Bool) (s:List (Int×Int×Int×Int×Int×Int)) (cZ:Bool) (band:Int) (qo:F.Qg l s band) (b0:aC) (hb:b0.n=2) (R:List (List Int)):∀(q k:Nat) (LL:List (List Int)),k+q=l.length→LL.length=k→LL++F.jB (l.drop k) s band=R→
 Sym.af Tryz.prog b0 (cutAt Tryz.f25 5) (fS l aA s cZ band LL (k:Int)) (Sym.Ends Tryz.prog Tryz.f25 2 (.aP [.c (.own 2 R.length),.c (.int .i64 0)]) [.cj 0 R [] [] 22 3]):=by
 intro q
 induction q with
 | zero=>
   intro k LL hk hL hR;rw [List.drop_eq_nil_of_le (by omega)] at hR;have e:F.jB [] s band=[]:=rfl;rw [e,List.append_nil] at hR;subst hR;refine af.go (cfg:=gq) fj mixed dL 400 hb (FL l aA s cZ band LL (k:Int)) ?_;simp only [T.wp,T.wp_cond,bF]
   exact ap (by rw [decide_eq_false (by simp only [Int.ofNat_eq_natCast];omega)];decide) ⟨trivial,trivial⟩
 | succ q ih=>
   intro k LL hk hL hR;have fx:k < l.length:=by omega
   obtain ⟨o1,o2,o3,o4⟩:=qo
   have h0:0 < s.length:=by
    rcases o3 with h | h
    ·rw [h] at fx;exact absurd fx (Nat.not_lt_zero _)
    ·exact h
   have ed:(cod 5).d=F.zO:=rfl;have hdr:l.drop k=l.getD k F.zO::l.drop (k+1):=uQ l F.zO k fx
   have jR:l.getD k F.zO∈l:=by
    rw [List.getD_eq_getElem?_getD,List.getElem?_eq_getElem fx];exact List.getElem_mem fx
   have e:F.jB (l.getD k F.zO::l.drop (k+1)) s band=s.map (F.tu band (l.getD k F.zO))::F.jB (l.drop (k+1)) s band:=rfl;rw [hdr,e] at hR;have nx:=ih (k+1) (LL++[s.map (F.tu band (l.getD k F.zO))]) (by omega) (by rw [List.length_append,List.length_singleton,hL]) (by rw [List.append_assoc];exact hR);rw [Int.natCast_succ] at nx
   have run:=Tt l aA s cZ band ⟨o1,o2,o3,o4⟩ h0 b0 hb R LL (by omega) (k:Int) (l.getD k F.zO) (o4 _ jR) (by
    refine af.go (cfg:=gq) fj mixed dL 400 hb (Yk l aA s cZ band _ (k:Int)) ?_;simp only [T.wp,bF];exact ⟨by unfold ae;omega,nx⟩) s.length 0 (by omega)
   refine af.go (cfg:=gq) fj mixed dL 400 hb (FL l aA s cZ band LL (k:Int)) ?_;simp only [T.wp,T.wp_cond,bF,Int.toNat_natCast,Nat.zero_add];rw [ed];exact aq (decide_eq_true (by simp only [Int.ofNat_eq_natCast];omega)) ⟨by simp only [Int.ofNat_eq_natCast];omega,fx,⟨by simp only [Int.ofNat_eq_natCast];omega,by simp only [Int.ofNat_eq_natCast];omega,trivial⟩,run⟩
theorem OU (l:List F.dT) (aA:Bool) (s:List (Int×Int×Int×Int×Int×Int)) (cZ:Bool) (band:Int) (b0:aC) (hb:b0.n=2) (h0:F.Qg l s band):Sym.af Tryz.prog b0 [.code (aj Tryz.f25)] ⟨ay Tryz.f25 [.c (.ai 0 0 l.length aA),.c (.ai 1 0 s.length cZ),.c (.int .i64 band)],([.aB 5 l,.aB 2 s]:Heap cod)⟩ (Sym.Ends Tryz.prog Tryz.f25 2 (.aP [.c (.own 2 (F.jB l s band).length),.c (.int .i64 0)]) [.cj 0 (F.jB l s band) [] [] 22 3]):=by
 refine af.go (cfg:=gq) fj mixed dL 400 hb (Tu l aA s cZ band) ?_;have o1:=h0.1;have o2:=h0.2.1;simp only [T.wp,T.wp_cond,bF];refine ap (by rw [decide_eq_false (by simp only [Int.ofNat_eq_natCast];omega)];decide) (ap (by rw [decide_eq_false (by simp only [Int.ofNat_eq_natCast];omega)];decide) ?_);exact af.pf 8 0 22 3 rfl rfl (Ts l aA s cZ band h0 b0 hb _ l.length 0 [] (by omega) rfl rfl)
noncomputable def Eh:aH cod:=fun args H=>match args,H with
 | [.c (.ai 0 cF cA _),.c (.ai 1 s_i s_n _),.c (.int .i64 band)],[o0,o1]=>(match o0.cV 5 with | some l=>(match o1.cV 2 with | some s=>.aa ((cF=0∧cA=List.length l)∧(s_i=0∧s_n=List.length s)∧(F.Qg l s band)) (.ret (.aP [.c (.own 2 (F.jB l s band).length),.c (.int .i64 0)],[.cj 0 (F.jB l s band) [] [] 22 3])) | none=>.fail) | none=>.fail)
 | _,_=>.fail
theorem FK:Sound Tryz.prog cod 25 Eh:=ax (cfg:=gq) fj mixed Tryz.func25 rfl rfl _ fun args H r news hg b0 hb=>by
 unfold Eh at hg;split at hg
 ·skip
  split at hg
  ·rename_i l gG;cases aR gG;split at hg
   ·rename_i s yo;cases aR yo;simp only [T.ah,T.wp,Prod.mk.injEq] at hg;obtain ⟨⟨⟨rfl,rfl⟩,⟨rfl,rfl⟩,q2⟩,rfl,rfl⟩:=hg;exact OU _ _ _ _ _ b0 hb (by assumption)
   ·exact hg.elim
  ·exact hg.elim
 ·exact hg.elim
noncomputable def Cz:aQ cod:=(25,.p Eh)::IQ
noncomputable def Cl:aT cod:=c9 Cz
theorem pz:cv Tryz.prog cod Cz:=.cons FK fj
end
end
end Go.Proofs.YtcjagpfbhnmggaaGreatDoor
