/- Parts of the proof. -/
import Derived.Test.YtcjagpfbhnmggaaGreatDoorBd38
namespace Go.Proofs.YtcjagpfbhnmggaaGreatDoor
section
open Sym Go.RowKit
noncomputable section
set_option maxRecDepth 100000
set_option maxHeartbeats 4000000
namespace F
noncomputable def kept {α:Type} (p:α→Bool) (l:List α):List α:=l.filter fun x=>!(p x)
noncomputable def fO (p:bJ→Bool) (l:List bJ):List bJ:=kept p l++List.replicate (l.length - (kept p l).length) eK
end F
namespace F
theorem kX {α:Type} (p:α→Bool) (x:α) (l:List α):kept p (x::l)=if p x=true then kept p l else x::kept p l:=by
 unfold kept;rw [List.filter_cons];cases p x<;>rfl
theorem US {α:Type} (p:α→Bool) (l m:List α):kept p (l++m)=kept p l++kept p m:=List.filter_append ..
theorem GC {α:Type} (p:α→Bool) (l:List α):(kept p l).length≤l.length:=List.length_filter_le ..
theorem tI {α:Type} (p:α→Bool):∀(l:List α) (k:Int),0≤k→(fq p l k= -1∧kept p l=l)∨∃m:Nat,m < l.length∧fq p l k=k+m∧kept p (l.take m)=l.take m∧kept p (l.take (m+1))=l.take m
 | [],k,_=>.inl ⟨rfl,rfl⟩
 | x::l,k,h=>by
   unfold fq
   cases c:p x with
   | true=>
     refine .inr ⟨0,Nat.zero_lt_succ _,by rw [if_pos rfl];simp,rfl,?_⟩;show kept p [x]=[];rw [kX,if_pos c]
     rfl
   | false=>
     rw [if_neg (by decide)];rcases tI p l (k+1) (by omega) with ⟨h1,h2⟩ | ⟨m,h1,h2,h3,h4⟩
     ·refine .inl ⟨h1,?_⟩;rw [kX,if_neg (by rw [c];decide),h2]
     ·refine .inr ⟨m+1,by rw [List.length_cons];omega,by rw [h2];omega,?_,?_⟩
      ·rw [List.take_succ_cons,kX,if_neg (by rw [c];decide),h3]
      ·rw [List.take_succ_cons,List.take_succ_cons,kX,if_neg (by rw [c];decide),h4]
end F
noncomputable def FU:bA:=[(5,[0,1,6,5],4)]
theorem abX (l:List F.bJ) (time:Int) (nw:List F.cU):mD qt FU Tryz.f68.results.toList ([.own 6 l 81,.aF [.int .i64 time] 3,.aF [.own 3 nw.length] 52,.own 4 nw 54]:Heap cod) 400 [.code (aj Tryz.f68)] ⟨ay Tryz.f68 [.c (.own 0 l.length),.c (.fn 69 [(1,0,0),(2,0,0)])],([.own 6 l 81,.aF [.int .i64 time] 3,.aF [.own 3 nw.length] 52,.own 4 nw 54]:Heap cod)⟩=
.aa (((0=0∧List.length l=List.length l)∧((0=0∧List.length nw=List.length nw)∧(List.length nw≤100∧List.length l≤100)))) (
 cond (decide (F.fq (F.del nw time) l 0= -1)) (
 .ret (.fin (.c (.own 0 l.length)) [.own 6 l 81,.aF [.int .i64 time] 3,.aF [.own 3 nw.length] 52,.own 4 nw 54])) (
 .aa (ae (F.fq (F.del nw time) l 0+1)) (
 .ret (.cut (cutAt Tryz.f68 5) ⟨bc 35 [(0,.c (.own 0 l.length)),(0,.c (.fn 69 [(1,0,0),(2,0,0)])),(3,.c (.int .i64 (F.fq (F.del nw time) l 0))),(0,.c (.int .i64 (F.fq (F.del nw time) l 0+1)))],[.own 6 l 81,.aF [.int .i64 time] 3,.aF [.own 3 nw.length] 52,.own 4 nw 54]⟩)))):=by kernel_rfl
theorem Yp (l:List F.bJ) (time:Int) (nw:List F.cU) (b0:aC) (hb:b0.n=4) (h0:l.length≤100∧nw.length≤100) (h1:F.fq (F.del nw time) l 0= -1):Sym.af Tryz.prog b0 [.code (aj Tryz.f68)] ⟨ay Tryz.f68 [.c (.own 0 l.length),.c (.fn 69 [(1,0,0),(2,0,0)])],([.own 6 l 81,.aF [.int .i64 time] 3,.aF [.own 3 nw.length] 52,.own 4 nw 54]:Heap cod)⟩ (Sym.eM Tryz.prog Tryz.f68 ([.own 6 l 81,.aF [.int .i64 time] 3,.aF [.own 3 nw.length] 52,.own 4 nw 54]:Heap cod) (.c (.own 0 l.length)) [.own 6 l 81,.aF [.int .i64 time] 3,.aF [.own 3 nw.length] 52,.own 4 nw 54]):=by
 refine af.vU (cfg:=qt) mK mixed FU 400 hb (abX l time nw) ?_;simp only [T.wp,T.wp_cond,bF];exact ⟨⟨⟨trivial,trivial⟩,⟨trivial,trivial⟩,h0.2,h0.1⟩,aq (decide_eq_true h1) (by first | exact ⟨rfl,rfl⟩ | exact ⟨rfl,trivial⟩ | exact ⟨trivial,rfl⟩ | exact ⟨trivial,trivial⟩)⟩
noncomputable def NU:aH cod:=fun args H=>match args,H with
 | [.c (.own 0 ln),.c (.fn 69 [(1,0,0),(2,0,0)])],[o0,.aF [.int .i64 time] 3,.aF [.own 3 mn] 52,o3]=>(match o0.jz 6 81 with | some l=>(match o3.jz 4 54 with | some nw=>.aa ((.aF [.own 3 mn] 52:av cod)= .aF [.own 3 nw.length] 52) (.aa ((.c (.own 0 ln):SV)= .c (.own 0 l.length)) (.aa ((l.length≤100∧nw.length≤100)∧(F.fq (F.del nw time) l 0= -1)) (.ret (.c (.own 0 l.length),[.own 6 l 81,.aF [.int .i64 time] 3,.aF [.own 3 nw.length] 52,.own 4 nw 54])))) | none=>.fail) | none=>.fail)
 | _,_=>.fail
theorem OZ:dX Tryz.prog cod 68 NU:=gg (cfg:=qt) Tryz.func68 rfl rfl _ fun args H r H' hg b0 hb=>by
 unfold NU at hg;split at hg
 ·skip
  split at hg
  ·rename_i l gG;cases dY gG;split at hg
   ·rename_i nw hx3;cases dY hx3;obtain ⟨ot0,hg⟩:=hg;cases ot0;obtain ⟨tt,hg⟩:=hg;have t0:=tt;cases t0;obtain ⟨hq,hg⟩:=hg;obtain ⟨q0,q1⟩:=hq;cases hg;exact Yp _ _ _ b0 hb (by assumption) (by assumption)
   ·exact hg.elim
  ·exact hg.elim
 ·exact hg.elim
noncomputable def mX:bA:=[(5,[0,1,6,5],4)]
theorem abZ (l:List F.bJ) (time:Int) (nw:List F.cU):mD qt mX Tryz.f68.results.toList ([.own 6 l 81,.aF [.int .i64 time] 3,.aF [.own 3 nw.length] 52,.own 4 nw 54]:Heap cod) 400 [.code (aj Tryz.f68)] ⟨ay Tryz.f68 [.c (.own 0 l.length),.c (.fn 69 [(1,0,0),(2,0,0)])],([.own 6 l 81,.aF [.int .i64 time] 3,.aF [.own 3 nw.length] 52,.own 4 nw 54]:Heap cod)⟩=
.aa (((0=0∧List.length l=List.length l)∧((0=0∧List.length nw=List.length nw)∧(List.length nw≤100∧List.length l≤100)))) (
 cond (decide (F.fq (F.del nw time) l 0= -1)) (
 .ret (.fin (.c (.own 0 l.length)) [.own 6 l 81,.aF [.int .i64 time] 3,.aF [.own 3 nw.length] 52,.own 4 nw 54])) (
 .aa (ae (F.fq (F.del nw time) l 0+1)) (
 .ret (.cut (cutAt Tryz.f68 5) ⟨bc 35 [(0,.c (.own 0 l.length)),(0,.c (.fn 69 [(1,0,0),(2,0,0)])),(3,.c (.int .i64 (F.fq (F.del nw time) l 0))),(0,.c (.int .i64 (F.fq (F.del nw time) l 0+1)))],[.own 6 l 81,.aF [.int .i64 time] 3,.aF [.own 3 nw.length] 52,.own 4 nw 54]⟩)))):=by kernel_rfl
noncomputable def HK (l:List F.bJ) (time:Int) (nw:List F.cU) (r:List F.bJ) (i j:Int):St cod:=⟨bc 35 [(0,.c (.own 0 l.length)),(0,.c (.fn 69 [(1,0,0),(2,0,0)])),(3,.c (.int .i64 i)),(0,.c (.int .i64 j))],([.own 6 r 81,.aF [.int .i64 time] 3,.aF [.own 3 nw.length] 52,.own 4 nw 54]:Heap cod)⟩
theorem TE (l:List F.bJ) (time:Int) (nw:List F.cU) (r:List F.bJ) (i j:Int):mD qt mX Tryz.f68.results.toList ([.own 6 l 81,.aF [.int .i64 time] 3,.aF [.own 3 nw.length] 52,.own 4 nw 54]:Heap cod) 400 (cutAt Tryz.f68 5) (HK l time nw r i j)=
 cond (decide (j < Int.ofNat l.length)) (
 .aa (((0:Int)≤j∧j < Int.ofNat l.length)) (
 .aa (0+Int.toNat j < List.length r) (
 .aa (((0=0∧List.length nw=List.length nw)∧List.length nw≤100)) (
 cond (!F.del nw time (List.getD r (0+Int.toNat j) (cod 6).d)) (
  .aa (((0:Int)≤i∧i < Int.ofNat l.length)) (
  .aa (0+Int.toNat i < List.length r) (
  .aa (ae (i+1)) (
  .aa (ae (j+1)) (
  .ret (.cut (cutAt Tryz.f68 5) ⟨bc 35 [(0,.c (.own 0 l.length)),(0,.c (.fn 69 [(1,0,0),(2,0,0)])),(3,.c (.int .i64 (i+1))),(0,.c (.int .i64 (j+1)))],[.own 6 (List.set r (0+Int.toNat i) (List.getD r (0+Int.toNat j) (cod 6).d)) 81,.aF [.int .i64 time] 3,.aF [.own 3 nw.length] 52,.own 4 nw 54]⟩)))))) (
  .aa (ae (j+1)) (
  .ret (.cut (cutAt Tryz.f68 5) ⟨bc 35 [(0,.c (.own 0 l.length)),(0,.c (.fn 69 [(1,0,0),(2,0,0)])),(3,.c (.int .i64 i)),(0,.c (.int .i64 (j+1)))],[.own 6 r 81,.aF [.int .i64 time] 3,.aF [.own 3 nw.length] 52,.own 4 nw 54]⟩))))))) (
 .aa (((0:Int)≤i∧i≤Int.ofNat l.length)) (
 .aa (0+Int.toNat i+(List.length l - Int.toNat i)≤List.length r) (
 .aa (((0:Int)≤i∧i≤Int.ofNat l.length)) (
 .ret (.fin (.c (.ai 0 0 i.toNat false)) [.own 6 ((List.take (0+Int.toNat i) r)++((List.replicate (List.length l - Int.toNat i) (F.bJ.mk (F.cU.mk (F.dT.mk 0 0 0 0 0 0 0 0 0 0 0 0 0) 0 0 0 0 0 0 0) 0 0 false))++(List.drop (0+Int.toNat i+(List.length l - Int.toNat i)) r))) 81,.aF [.int .i64 time] 3,.aF [.own 3 nw.length] 52,.own 4 nw 54]))))):=by kernel_rfl
theorem Po {α:Type} {r l:List α} {j:Nat} (d:α) (h:r.drop j=l.drop j):r.getD j d=l.getD j d:=by
 have:=congrArg (fun x:List α=>x[0]?) h;simp only [List.getElem?_drop,Nat.add_zero] at this;rw [List.getD_eq_getElem?_getD,List.getD_eq_getElem?_getD,this]
theorem abY (l:List F.bJ) (time:Int) (nw:List F.cU) (hl:l.length≤100∧nw.length≤100) (b0:aC) (hb:b0.n=4):∀(q j:Nat) (r:List F.bJ) (i:Nat),j+q=l.length→r.length=l.length→i < j→i=(F.kept (F.del nw time) (l.take j)).length→r.take i=F.kept (F.del nw time) (l.take j)→r.drop j=l.drop j→
 Sym.af Tryz.prog b0 (cutAt Tryz.f68 5) (HK l time nw r (i:Int) (j:Int)) (Sym.eM Tryz.prog Tryz.f68 ([.own 6 l 81,.aF [.int .i64 time] 3,.aF [.own 3 nw.length] 52,.own 4 nw 54]:Heap cod) (.c (.ai 0 0 (F.kept (F.del nw time) l).length false)) [.own 6 (F.fO (F.del nw time) l) 81,.aF [.int .i64 time] 3,.aF [.own 3 nw.length] 52,.own 4 nw 54]):=by
 intro q
 induction q with
 | zero=>
   intro j r i hj hr Nk hi ht hd;have ej:j=l.length:=by omega
   rw [ej,List.take_length] at ht hi;refine af.vU (cfg:=qt) mK mixed mX 400 hb (TE l time nw r (i:Int) (j:Int)) ?_;simp only [T.wp,T.wp_cond,bF,Int.toNat_natCast,Nat.zero_add];refine ap (by rw [decide_eq_false (by simp only [Int.ofNat_eq_natCast];omega)];decide) ⟨by simp only [Int.ofNat_eq_natCast];omega,by omega,by simp only [Int.ofNat_eq_natCast];omega,?_⟩;have e1:r.drop (i+(l.length - i))=[]:=List.drop_eq_nil_of_le (by omega)
   have e2:r.take i++(List.replicate (l.length - i) F.eK++r.drop (i+(l.length - i)))=F.fO (F.del nw time) l:=by
    rw [e1,List.append_nil,ht];unfold F.fO;rw [←hi]
   have e3:(F.bJ.mk (F.cU.mk (F.dT.mk 0 0 0 0 0 0 0 0 0 0 0 0 0) 0 0 0 0 0 0 0) 0 0 false)=F.eK:=rfl;rw [e3]
   have e4:∀X:List F.bJ,X=F.fO (F.del nw time) l→(SV.c (.ai 0 0 i false)=SV.c (.ai 0 0 (F.kept (F.del nw time) l).length false)∧([.own 6 X 81,.aF [.int .i64 time] 3,.aF [.own 3 nw.length] 52,.own 4 nw 54]:Heap cod)=[.own 6 (F.fO (F.del nw time) l) 81,.aF [.int .i64 time] 3,.aF [.own 3 nw.length] 52,.own 4 nw 54]):=fun X hX=>by
    rw [hX,←hi];exact ⟨rfl,rfl⟩
   exact e4 _ e2
 | succ q ih=>
   intro j r i hj hr Nk hi ht hd;have hjl:j < l.length:=by omega
   have eg:r.getD j F.eK=l.getD j F.eK:=Po _ hd;have ed:(cod 6).d=F.eK:=rfl;have es:l.take (j+1)=l.take j++[l.getD j F.eK]:=et l F.eK j hjl;have ji:ae ((j:Int)+1):=by unfold ae;omega
   have ii:ae ((i:Int)+1):=by unfold ae;omega
   refine af.vU (cfg:=qt) mK mixed mX 400 hb (TE l time nw r (i:Int) (j:Int)) ?_;simp only [T.wp,T.wp_cond,bF,Int.toNat_natCast,Nat.zero_add];rw [ed,eg];refine aq (decide_eq_true (by simp only [Int.ofNat_eq_natCast];omega)) ⟨by simp only [Int.ofNat_eq_natCast];omega,by omega,⟨⟨trivial,trivial⟩,hl.2⟩,?_⟩
   have hd2:∀x,(r.set i x).drop (j+1)=l.drop (j+1):=fun x=>by
    rw [List.drop_set_of_lt (by omega)];have:=congrArg (List.drop 1) hd
    rwa [List.drop_drop,List.drop_drop] at this
   have hd3:r.drop (j+1)=l.drop (j+1):=by
    have:=congrArg (List.drop 1) hd
    rwa [List.drop_drop,List.drop_drop] at this
   generalize l.getD j F.eK=x at*
   have ek:F.kept (F.del nw time) (l.take (j+1))=if F.del nw time x=true then F.kept (F.del nw time) (l.take j) else F.kept (F.del nw time) (l.take j)++[x]:=by
    rw [es,F.US,F.kX];have e0:F.kept (F.del nw time) ([]:List F.bJ)=[]:=rfl;rw [e0];split
    ·rw [List.append_nil]
    ·rfl
   cases c:F.del nw time x with
   | true=>
     rw [c,if_pos rfl] at ek;have nx:=ih (j+1) r i (by omega) hr (by omega) (by rw [ek];exact hi) (by rw [ek];exact ht) hd3;rw [Int.natCast_succ] at nx
     exact ap (by decide) ⟨ji,nx⟩
   | false=>
     rw [c,if_neg (by decide)] at ek;have hir:i < r.length:=by omega
     have nx:=ih (j+1) (r.set i x) (i+1) (by omega) (by rw [List.length_set];exact hr) (by omega) (by rw [ek,List.length_append,List.length_singleton,←hi]) (by
      rw [ek,←ht];have h1:=et (r.set i x) F.eK i (by rw [List.length_set];exact hir);rw [h1,List.take_set_of_le (Nat.le_refl _)];congr 1;rw [List.getD_eq_getElem?_getD,List.getElem?_set_self hir];rfl) (hd2 x)
     rw [Int.natCast_succ,Int.natCast_succ] at nx;rw [←eg] at nx;exact aq (by decide) ⟨by simp only [Int.ofNat_eq_natCast];omega,hir,ii,ji,nx⟩
theorem Yq (l:List F.bJ) (time:Int) (nw:List F.cU) (b0:aC) (hb:b0.n=4) (h0:l.length≤100∧nw.length≤100) (h1:¬F.fq (F.del nw time) l 0= -1):Sym.af Tryz.prog b0 [.code (aj Tryz.f68)] ⟨ay Tryz.f68 [.c (.own 0 l.length),.c (.fn 69 [(1,0,0),(2,0,0)])],([.own 6 l 81,.aF [.int .i64 time] 3,.aF [.own 3 nw.length] 52,.own 4 nw 54]:Heap cod)⟩ (Sym.eM Tryz.prog Tryz.f68 ([.own 6 l 81,.aF [.int .i64 time] 3,.aF [.own 3 nw.length] 52,.own 4 nw 54]:Heap cod) (.c (.ai 0 0 (F.kept (F.del nw time) l).length false)) [.own 6 (F.fO (F.del nw time) l) 81,.aF [.int .i64 time] 3,.aF [.own 3 nw.length] 52,.own 4 nw 54]):=by
 refine af.vU (cfg:=qt) mK mixed mX 400 hb (abZ l time nw) ?_;have hm:=F.tI (F.del nw time) l 0 (by omega)
 obtain ⟨m,m1,m2,m3,m4⟩:∃m:Nat,m < l.length∧F.fq (F.del nw time) l 0=0+m∧F.kept (F.del nw time) (l.take m)=l.take m∧F.kept (F.del nw time) (l.take (m+1))=l.take m:=by
  rcases hm with h | h
  ·exact absurd h.1 h1
  ·exact h
 have m5:F.fq (F.del nw time) l 0=(m:Int):=by omega
 simp only [T.wp,T.wp_cond,bF];rw [m5];have nx:=abY l time nw h0 b0 hb (l.length - (m+1)) (m+1) l m (by omega) rfl (by omega) (by rw [m4,List.length_take];omega) m4.symm rfl;rw [Int.natCast_succ] at nx;exact ⟨⟨⟨trivial,trivial⟩,⟨trivial,trivial⟩,h0.2,h0.1⟩,ap (by rw [decide_eq_false (by omega)];decide) ⟨by unfold ae;omega,nx⟩⟩
noncomputable def NV:aH cod:=fun args H=>match args,H with
 | [.c (.own 0 ln),.c (.fn 69 [(1,0,0),(2,0,0)])],[o0,.aF [.int .i64 time] 3,.aF [.own 3 mn] 52,o3]=>(match o0.jz 6 81 with | some l=>(match o3.jz 4 54 with | some nw=>.aa ((.aF [.own 3 mn] 52:av cod)= .aF [.own 3 nw.length] 52) (.aa ((.c (.own 0 ln):SV)= .c (.own 0 l.length)) (.aa ((l.length≤100∧nw.length≤100)∧(¬F.fq (F.del nw time) l 0= -1)) (.ret (.c (.ai 0 0 (F.kept (F.del nw time) l).length false),[.own 6 (F.fO (F.del nw time) l) 81,.aF [.int .i64 time] 3,.aF [.own 3 nw.length] 52,.own 4 nw 54])))) | none=>.fail) | none=>.fail)
 | _,_=>.fail
theorem O0:dX Tryz.prog cod 68 NV:=gg (cfg:=qt) Tryz.func68 rfl rfl _ fun args H r H' hg b0 hb=>by
 unfold NV at hg;split at hg
 ·skip
  split at hg
  ·rename_i l gG;cases dY gG;split at hg
   ·rename_i nw hx3;cases dY hx3;obtain ⟨ot0,hg⟩:=hg;cases ot0;obtain ⟨tt,hg⟩:=hg;have t0:=tt;cases t0;obtain ⟨hq,hg⟩:=hg;obtain ⟨q0,q1⟩:=hq;cases hg;exact Yq _ _ _ b0 hb (by assumption) (by assumption)
   ·exact hg.elim
  ·exact hg.elim
 ·exact hg.elim
noncomputable def afN:aH cod:=Lf (fun _ H=>match H with
 | [o0,.aF [.int .i64 time] _,_,o3]=>(match o0.jz 6 81 with
   | some l=>(match o3.jz 4 54 with
     | some nw=>decide (F.fq (F.del nw time) l 0= -1)
     | none=>false)
   | none=>false)
 | _=>false) NU NV
noncomputable def ady:aH cod:=fun args H=>match args,H with
 | [.c (.own 0 ln),.c (.fn 69 [(1,0,0),(2,0,0)])],[o0,.aF [.int .i64 time] 3,.aF [.own 3 mn] 52,o3]=>(match o0.jz 6 81 with
   | some l=>(match o3.jz 4 54 with
     | some nw=>.aa ((ln=List.length l∧mn=List.length nw)∧l.length≤100∧nw.length≤100) (.ret (.c (.ai 0 0 (F.kept (F.del nw time) l).length false),[.own 6 (F.fO (F.del nw time) l) 81,.aF [.int .i64 time] 3,.aF [.own 3 mn] 52,.own 4 nw 54]))
     | none=>.fail)
   | none=>.fail)
 | _,_=>.fail
theorem OY:dX Tryz.prog cod 68 afN:=dz.aim OZ O0
theorem xo (t:Nat) (ty:TypeId) (l:List (cod t).α):(av.own t l ty:av cod).jz t ty=some l:=by
 unfold av.jz;simp
theorem F.F0 {p:F.bJ→Bool} {l:List F.bJ} (h:F.kept p l=l):F.fO p l=l:=by
 unfold F.fO;rw [h,Nat.sub_self];exact List.append_nil l
theorem TF:dX Tryz.prog cod 68 ady:=dX.soft OY fun args H r H' hg=>by
 unfold ady at hg;split at hg
 ·rename_i ln o0 time mn o3;split at hg
  ·rename_i l gG;cases Sym.dY gG;split at hg
   ·rename_i nw hx3;cases Sym.dY hx3;obtain ⟨⟨⟨rfl,rfl⟩,h1,h2⟩,hg⟩:=hg;cases hg;have e0:=xo 6 81 l;have e3:=xo 4 54 nw;by_cases c:F.fq (F.del nw time) l 0= -1
    ·have hk:F.kept (F.del nw time) l=l:=by
      rcases F.tI (F.del nw time) l 0 (by omega) with h | ⟨m,h,h',_⟩
      ·exact h.2
      ·omega
     refine ⟨.c (.own 0 l.length),⟨fun _=>?_,fun h=>?_⟩,?_⟩
     ·unfold NU;simp only [e0,e3];refine ⟨trivial,trivial,⟨⟨h1,h2⟩,c⟩,?_⟩;rw [F.F0 hk];rfl
     ·exfalso;simp only [e0,e3,decide_eq_false_iff_not] at h;exact h c
     ·rw [hk];rfl
    ·refine ⟨.c (.ai 0 0 (F.kept (F.del nw time) l).length false),⟨fun h=>?_,fun _=>?_⟩,rfl⟩
     ·exfalso;simp only [e0,e3,decide_eq_true_eq] at h;exact c h
     ·unfold NV;simp only [e0,e3];exact ⟨trivial,trivial,⟨⟨h1,h2⟩,c⟩,rfl⟩
   ·exact hg.elim
  ·exact hg.elim
 ·exact hg.elim
noncomputable def abr:aQ cod:=(68,.i ady)::Sl
noncomputable def Oe:aT cod:=c9 abr
theorem vN:cv Tryz.prog cod abr:=.FJ TF mK
namespace F
noncomputable def cf1 (r1 r2:Int) (x:bJ):Option bJ:=
 if x.f.t.st=0 then
  (if Rm x.bh x.bs x.fI r1 r2=2 then none
   else if Rm x.bh x.bs x.fI r1 r2=1 then some ⟨⟨⟨x.f.t.id,1,x.f.t.tm,x.f.t.x,x.f.t.y,x.f.t.sx,x.f.t.sy,x.f.t.hg,x.f.t.rt,x.f.t.ra,x.f.t.cd,x.f.t.ht,x.f.t.ms⟩,x.f.sl,x.f.lt,x.f.lx,x.f.ly,x.f.lh,x.f.lc,x.f.le⟩,X4 x.bh x.bs x.fI,Xo x.bh x.bs,x.fI⟩
   else some ⟨x.f,X4 x.bh x.bs x.fI,Xo x.bh x.bs,x.fI⟩)
 else some x
noncomputable def C7 (r1 r2:Int) (l:List bJ):List bJ:=l.filterMap (cf1 r1 r2)
end F
noncomputable def kO:bA:=[(2,[2,0,11,12,13],3)]
theorem Yi (r1 r2 r3 r4 r5 r6 nx la:Int) (l:List F.bJ):mD Oe kO Tryz.f31.results.toList ([.aF [.int .i64 r1,.int .i64 r2,.int .i64 r3,.int .i64 r4,.int .i64 r5,.int .i64 r6,.own 1 l.length,.int .i64 nx,.int .i64 la] 62,.own 6 l 81]:Heap cod) 400 [.code (aj Tryz.f31)] ⟨ay Tryz.f31 [.c (.ptr 0 0 0)],([.aF [.int .i64 r1,.int .i64 r2,.int .i64 r3,.int .i64 r4,.int .i64 r5,.int .i64 r6,.own 1 l.length,.int .i64 nx,.int .i64 la] 62,.own 6 l 81]:Heap cod)⟩=
 (let q0:=List.length l;
 .ret (.cut (cutAt Tryz.f31 2) ⟨bc 45 [(0,.c (.ptr 0 0 0)),(1,.c (.own 2 0)),(8,.c (.own 1 q0)),(0,.c (.int .i64 (Int.ofNat q0))),(0,.c (.int .i64 0))],[.aF [.int .i64 r1,.int .i64 r2,.int .i64 r3,.int .i64 r4,.int .i64 r5,.int .i64 r6,.own 1 q0,.int .i64 nx,.int .i64 la] 62,.own 6 l 81,.own 6 [] 81]⟩)):=by kernel_rfl
noncomputable def oF (r1 r2 r3 r4 r5 r6 nx la:Int) (l:List F.bJ) (out:List F.bJ) (on:Nat) (k:Int):St cod:=⟨bc 45 [(0,.c (.ptr 0 0 0)),(1,.c (.own 2 on)),(8,.c (.own 1 l.length)),(0,.c (.int .i64 (Int.ofNat l.length))),(0,.c (.int .i64 k))],([.aF [.int .i64 r1,.int .i64 r2,.int .i64 r3,.int .i64 r4,.int .i64 r5,.int .i64 r6,.own 1 l.length,.int .i64 nx,.int .i64 la] 62,.own 6 l 81,.own 6 out 81]:Heap cod)⟩
theorem M0 (r1 r2 r3 r4 r5 r6 nx la:Int) (l:List F.bJ) (out:List F.bJ) (on:Nat) (k:Int):mD Oe kO Tryz.f31.results.toList ([.aF [.int .i64 r1,.int .i64 r2,.int .i64 r3,.int .i64 r4,.int .i64 r5,.int .i64 r6,.own 1 l.length,.int .i64 nx,.int .i64 la] 62,.own 6 l 81]:Heap cod) 400 (cutAt Tryz.f31 2) (oF r1 r2 r3 r4 r5 r6 nx la l out on k)=
 (let q0:=List.getD l (0+Int.toNat k) (cod 6).d;
 let q2:=List.length l;
 let q1:av cod:=.aF [.int .i64 r1,.int .i64 r2,.int .i64 r3,.int .i64 r4,.int .i64 r5,.int .i64 r6,.own 1 q2,.int .i64 nx,.int .i64 la] 62;
 let q3:=Int.ofNat q2;
 let q4:=F.X4 q0.bh q0.bs q0.fI;
 cond (decide (k < Int.ofNat q2)) (.aa (((0:Int)≤k∧k < Int.ofNat q2)) (.aa (0+Int.toNat k < List.length l) (cond (decide (q0.f.t.st=0)) (.aa (F.lZ r1 r2=0) (cond (decide (F.Rm q0.bh q0.bs q0.fI r1 r2=2)) (.aa (ae (k+1)) (.ret (.cut (cutAt Tryz.f31 2) ⟨bc 45 [(0,.c (.ptr 0 0 0)),(1,.c (.own 2 (on))),(8,.c (.own 1 q2)),(0,.c (.int .i64 q3)),(0,.c (.int .i64 (k+1)))],[q1,.own 6 l 81,.own 6 out 81]⟩))) (cond (decide (F.Rm q0.bh q0.bs q0.fI r1 r2=1)) (.aa (1=1) (.aa (on+1≤1000000) (.aa (ae (k+1)) (.ret (.cut (cutAt Tryz.f31 2) ⟨bc 45 [(0,.c (.ptr 0 0 0)),(1,.c (.own 2 (on+1))),(8,.c (.own 1 q2)),(0,.c (.int .i64 q3)),(0,.c (.int .i64 (k+1)))],[q1,.own 6 l 81,.own 6 (out++([F.bJ.mk (F.cU.mk (F.dT.mk q0.f.t.id 1 q0.f.t.tm q0.f.t.x q0.f.t.y q0.f.t.sx q0.f.t.sy q0.f.t.hg q0.f.t.rt q0.f.t.ra q0.f.t.cd q0.f.t.ht q0.f.t.ms) q0.f.sl q0.f.lt q0.f.lx q0.f.ly q0.f.lh q0.f.lc q0.f.le) q4 (F.Xo q0.bh q0.bs) q0.fI])) 81]⟩))))) (.aa (1=1) (.aa (on+1≤1000000) (.aa (ae (k+1)) (.ret (.cut (cutAt Tryz.f31 2) ⟨bc 45 [(0,.c (.ptr 0 0 0)),(1,.c (.own 2 (on+1))),(8,.c (.own 1 q2)),(0,.c (.int .i64 q3)),(0,.c (.int .i64 (k+1)))],[q1,.own 6 l 81,.own 6 (out++([F.bJ.mk q0.f q4 (F.Xo q0.bh q0.bs) q0.fI])) 81]⟩)))))))) (.aa (1=1) (.aa (on+1≤1000000) (.aa (ae (k+1)) (.ret (.cut (cutAt Tryz.f31 2) ⟨bc 45 [(0,.c (.ptr 0 0 0)),(1,.c (.own 2 (on+1))),(8,.c (.own 1 q2)),(0,.c (.int .i64 q3)),(0,.c (.int .i64 (k+1)))],[q1,.own 6 l 81,.own 6 (out++([List.getD l (0+Int.toNat k) (cod 6).d])) 81]⟩)))))))) (.ret (.fin (.aP []) [.aF [.int .i64 r1,.int .i64 r2,.int .i64 r3,.int .i64 r4,.int .i64 r5,.int .i64 r6,.own 2 (on),.int .i64 nx,.int .i64 la] 62,.own 6 l 81,.own 6 out 81]))):=by kernel_rfl
theorem x7 {α β:Type} (f:α→Option β) (l:List α) (x:α):(l++[x]).filterMap f=l.filterMap f++(f x).toList:=by
 rw [List.filterMap_append];cases h:f x<;>simp [h]
theorem Yh (r1 r2 r3 r4 r5 r6 nx la:Int) (l:List F.bJ) (hr:F.lZ r1 r2=0) (hl:l.length≤100) (b0:aC) (hb:b0.n=2) (R:List F.bJ) (hR:R=F.C7 r1 r2 l):∀(q k:Nat) (out:List F.bJ) (on:Nat),k+q=l.length→on=out.length→on≤k→out=F.C7 r1 r2 (l.take k)→
 Sym.af Tryz.prog b0 (cutAt Tryz.f31 2) (oF r1 r2 r3 r4 r5 r6 nx la l out on (k:Int)) (Sym.eM Tryz.prog Tryz.f31 ([.aF [.int .i64 r1,.int .i64 r2,.int .i64 r3,.int .i64 r4,.int .i64 r5,.int .i64 r6,.own 1 l.length,.int .i64 nx,.int .i64 la] 62,.own 6 l 81]:Heap cod) (.aP []) [.aF [.int .i64 r1,.int .i64 r2,.int .i64 r3,.int .i64 r4,.int .i64 r5,.int .i64 r6,.own 2 R.length,.int .i64 nx,.int .i64 la] 62,.own 6 l 81,.own 6 R 81]):=by
 intro q
 induction q with
 | zero=>
   intro k out on hk ru hle ho;rw [List.take_of_length_le (by omega),←hR] at ho;subst ho;refine af.vU (cfg:=Oe) vN mixed kO 400 hb (M0 r1 r2 r3 r4 r5 r6 nx la l out on (k:Int)) ?_;simp only [T.wp,T.wp_cond,bF];refine ap (by rw [decide_eq_false (by simp only [Int.ofNat_eq_natCast];omega)];decide) ?_;rw [ru]
   exact (by first | exact ⟨rfl,rfl⟩ | exact ⟨rfl,trivial⟩ | exact ⟨trivial,rfl⟩ | exact ⟨trivial,trivial⟩)
 | succ q ih=>
   intro k out on hk ru hle ho;have fx:k < l.length:=by omega
   have ki:ae ((k:Int)+1):=by unfold ae;omega
   have ed:(cod 6).d=F.eK:=rfl
   have es:F.C7 r1 r2 (l.take (k+1))=out++(F.cf1 r1 r2 (l.getD k F.eK)).toList:=by
    rw [et l F.eK k fx,ho];exact x7 _ _ _
   refine af.vU (cfg:=Oe) vN mixed kO 400 hb (M0 r1 r2 r3 r4 r5 r6 nx la l out on (k:Int)) ?_;simp only [T.wp,T.wp_cond,bF,Int.toNat_natCast,Nat.zero_add];rw [ed];refine aq (decide_eq_true (by simp only [Int.ofNat_eq_natCast];omega)) ⟨by simp only [Int.ofNat_eq_natCast];omega,fx,?_⟩;generalize l.getD k F.eK=x at*
   have bG:∀y,F.cf1 r1 r2 x=some y→Sym.af Tryz.prog b0 (cutAt Tryz.f31 2) (oF r1 r2 r3 r4 r5 r6 nx la l (out++[y]) (on+1) ((k:Int)+1)) (Sym.eM Tryz.prog Tryz.f31 ([.aF [.int .i64 r1,.int .i64 r2,.int .i64 r3,.int .i64 r4,.int .i64 r5,.int .i64 r6,.own 1 l.length,.int .i64 nx,.int .i64 la] 62,.own 6 l 81]:Heap cod) (.aP []) [.aF [.int .i64 r1,.int .i64 r2,.int .i64 r3,.int .i64 r4,.int .i64 r5,.int .i64 r6,.own 2 R.length,.int .i64 nx,.int .i64 la] 62,.own 6 l 81,.own 6 R 81]):=fun y hy=>by
    have:=ih (k+1) (out++[y]) (on+1) (by omega) (by rw [List.length_append,List.length_singleton,ru]) (by omega) (by rw [es,hy];rfl)
    rwa [Int.natCast_succ] at this
   have drop:F.cf1 r1 r2 x=none→Sym.af Tryz.prog b0 (cutAt Tryz.f31 2) (oF r1 r2 r3 r4 r5 r6 nx la l out on ((k:Int)+1)) (Sym.eM Tryz.prog Tryz.f31 ([.aF [.int .i64 r1,.int .i64 r2,.int .i64 r3,.int .i64 r4,.int .i64 r5,.int .i64 r6,.own 1 l.length,.int .i64 nx,.int .i64 la] 62,.own 6 l 81]:Heap cod) (.aP []) [.aF [.int .i64 r1,.int .i64 r2,.int .i64 r3,.int .i64 r4,.int .i64 r5,.int .i64 r6,.own 2 R.length,.int .i64 nx,.int .i64 la] 62,.own 6 l 81,.own 6 R 81]):=fun hy=>by
    have:=ih (k+1) out on (by omega) ru (by omega) (by rw [es,hy];exact (List.append_nil _).symm)
    rwa [Int.natCast_succ] at this
   unfold F.cf1 at bG drop;by_cases c1:x.f.t.st=0
   ·refine aq (decide_eq_true c1) ⟨hr,?_⟩;rw [if_pos c1] at bG drop;by_cases c2:F.Rm x.bh x.bs x.fI r1 r2=2
    ·rw [if_pos c2] at drop;exact aq (decide_eq_true c2) ⟨ki,drop rfl⟩
    ·rw [if_neg c2] at bG;refine ap (by rw [decide_eq_false c2];decide) ?_;by_cases c3:F.Rm x.bh x.bs x.fI r1 r2=1
     ·rw [if_pos c3] at bG;exact aq (decide_eq_true c3) ⟨trivial,by omega,ki,bG _ rfl⟩
     ·rw [if_neg c3] at bG;exact ap (by rw [decide_eq_false c3];decide) ⟨trivial,by omega,ki,bG _ rfl⟩
   ·rw [if_neg c1] at bG;exact ap (by rw [decide_eq_false c1];decide) ⟨trivial,by omega,ki,bG _ rfl⟩
theorem Tn (r1 r2 r3 r4 r5 r6 nx la:Int) (l:List F.bJ) (b0:aC) (hb:b0.n=2) (h0:F.lZ r1 r2=0) (h1:l.length≤100):Sym.af Tryz.prog b0 [.code (aj Tryz.f31)] ⟨ay Tryz.f31 [.c (.ptr 0 0 0)],([.aF [.int .i64 r1,.int .i64 r2,.int .i64 r3,.int .i64 r4,.int .i64 r5,.int .i64 r6,.own 1 l.length,.int .i64 nx,.int .i64 la] 62,.own 6 l 81]:Heap cod)⟩ (Sym.eM Tryz.prog Tryz.f31 ([.aF [.int .i64 r1,.int .i64 r2,.int .i64 r3,.int .i64 r4,.int .i64 r5,.int .i64 r6,.own 1 l.length,.int .i64 nx,.int .i64 la] 62,.own 6 l 81]:Heap cod) (.aP []) [.aF [.int .i64 r1,.int .i64 r2,.int .i64 r3,.int .i64 r4,.int .i64 r5,.int .i64 r6,.own 2 (F.C7 r1 r2 l).length,.int .i64 nx,.int .i64 la] 62,.own 6 l 81,.own 6 (F.C7 r1 r2 l) 81]):=by
 refine af.vU (cfg:=Oe) vN mixed kO 400 hb (Yi r1 r2 r3 r4 r5 r6 nx la l) ?_;exact Yh r1 r2 r3 r4 r5 r6 nx la l h0 h1 b0 hb _ rfl l.length 0 [] 0 (by omega) rfl (by omega) rfl
noncomputable def K5:aH cod:=fun args H=>match args,H with
 | [.c (.ptr 0 0 0)],[.aF [.int .i64 r1,.int .i64 r2,.int .i64 r3,.int .i64 r4,.int .i64 r5,.int .i64 r6,.own 1 ln,.int .i64 nx,.int .i64 la] 62,o1]=>(match o1.jz 6 81 with | some l=>.aa ((.aF [.int .i64 r1,.int .i64 r2,.int .i64 r3,.int .i64 r4,.int .i64 r5,.int .i64 r6,.own 1 ln,.int .i64 nx,.int .i64 la] 62:av cod)= .aF [.int .i64 r1,.int .i64 r2,.int .i64 r3,.int .i64 r4,.int .i64 r5,.int .i64 r6,.own 1 l.length,.int .i64 nx,.int .i64 la] 62) (.aa ((F.lZ r1 r2=0)∧(l.length≤100)) (.ret (.aP [],[.aF [.int .i64 r1,.int .i64 r2,.int .i64 r3,.int .i64 r4,.int .i64 r5,.int .i64 r6,.own 2 (F.C7 r1 r2 l).length,.int .i64 nx,.int .i64 la] 62,.own 6 l 81,.own 6 (F.C7 r1 r2 l) 81]))) | none=>.fail)
 | _,_=>.fail
theorem Jy:dX Tryz.prog cod 31 K5:=gg (cfg:=Oe) Tryz.func31 rfl rfl _ fun args H r H' hg b0 hb=>by
 unfold K5 at hg;split at hg
 ·skip
  split at hg
  ·rename_i l yo;cases dY yo;obtain ⟨ot0,hg⟩:=hg;cases ot0;obtain ⟨hq,hg⟩:=hg;obtain ⟨q0,q1⟩:=hq;cases hg;exact Tn _ _ _ _ _ _ _ _ _ b0 hb (by assumption) (by assumption)
  ·exact hg.elim
 ·exact hg.elim
noncomputable def IM:aQ cod:=(31,.i K5)::abr
noncomputable def sF:aT cod:=c9 IM
theorem nZ:cv Tryz.prog cod IM:=.FJ Jy vN
namespace F
noncomputable def now (l:List bJ) (time:Int):List cU:=(l.filter fun x=>decide (x.f.t.tm=time)).map bJ.f
noncomputable def fsP (l:List bJ) (time:Int):bJ→Bool:=del (Ie (now l time) 500) time
noncomputable def M7 (l:List bJ) (time:Int):List bJ:=kept (fsP l time) l
noncomputable def Pg (l:List bJ) (time:Int):List bJ:=fO (fsP l time) l
end F
noncomputable def na:bA:=[(3,[4,3,10,0,11,12],5)]
theorem acf (r1 r2 r3 r4 r5 r6 nx la:Int) (l:List F.bJ) (time:Int):mD sF na Tryz.f32.results.toList ([.aF [.int .i64 r1,.int .i64 r2,.int .i64 r3,.int .i64 r4,.int .i64 r5,.int .i64 r6,.own 1 l.length,.int .i64 nx,.int .i64 la] 62,.own 6 l 81]:Heap cod) 400 [.code (aj Tryz.f32)] ⟨ay Tryz.f32 [.c (.ptr 0 0 0),.c (.int .i64 time)],([.aF [.int .i64 r1,.int .i64 r2,.int .i64 r3,.int .i64 r4,.int .i64 r5,.int .i64 r6,.own 1 l.length,.int .i64 nx,.int .i64 la] 62,.own 6 l 81]:Heap cod)⟩=
 (let q0:=List.length l;
 .ret (.cut (cutAt Tryz.f32 3) ⟨bc 29 [(0,.c (.ptr 0 0 0)),(2,.c (.ptr 2 0 0)),(0,.c (.ptr 3 0 0)),(5,.c (.own 1 q0)),(0,.c (.int .i64 (Int.ofNat q0))),(0,.c (.int .i64 0))],[.aF [.int .i64 r1,.int .i64 r2,.int .i64 r3,.int .i64 r4,.int .i64 r5,.int .i64 r6,.own 1 q0,.int .i64 nx,.int .i64 la] 62,.own 6 l 81,.aF [.int .i64 time] 3,.aF [.nil] 52]⟩)):=by kernel_rfl
noncomputable def HO (r1 r2 r3 r4 r5 r6 nx la:Int) (l:List F.bJ) (time:Int) (nw:List F.cU) (nn:Nat) (k:Int):St cod:=⟨bc 29 [(0,.c (.ptr 0 0 0)),(2,.c (.ptr 2 0 0)),(0,.c (.ptr 3 0 0)),(5,.c (.own 1 l.length)),(0,.c (.int .i64 (Int.ofNat l.length))),(0,.c (.int .i64 k))],([.aF [.int .i64 r1,.int .i64 r2,.int .i64 r3,.int .i64 r4,.int .i64 r5,.int .i64 r6,.own 1 l.length,.int .i64 nx,.int .i64 la] 62,.own 6 l 81,.aF [.int .i64 time] 3,.aF [.own 4 nn] 52,.own 4 nw 54]:Heap cod)⟩
theorem T7 (r1 r2 r3 r4 r5 r6 nx la:Int) (l:List F.bJ) (time:Int) (nw:List F.cU) (nn:Nat) (k:Int):mD sF na Tryz.f32.results.toList ([.aF [.int .i64 r1,.int .i64 r2,.int .i64 r3,.int .i64 r4,.int .i64 r5,.int .i64 r6,.own 1 l.length,.int .i64 nx,.int .i64 la] 62,.own 6 l 81]:Heap cod) 400 (cutAt Tryz.f32 3) (HO r1 r2 r3 r4 r5 r6 nx la l time nw nn k)=
 (let q1:=List.length l;
 let q0:av cod:=.aF [.int .i64 r1,.int .i64 r2,.int .i64 r3,.int .i64 r4,.int .i64 r5,.int .i64 r6,.own 1 q1,.int .i64 nx,.int .i64 la] 62;
 let q2:=F.Ie nw 500;
 let q3:=List.getD l (0+Int.toNat k) (cod 6).d;
 cond (decide (k < Int.ofNat q1)) (.aa (((0:Int)≤k∧k < Int.ofNat q1)) (.aa (0+Int.toNat k < List.length l) (cond (decide (q3.f.t.tm=time)) (.aa (1=1) (.aa (nn+1≤1000000) (.aa (ae (k+1)) (.ret (.cut (cutAt Tryz.f32 3) ⟨bc 29 [(0,.c (.ptr 0 0 0)),(2,.c (.ptr 2 0 0)),(0,.c (.ptr 3 0 0)),(5,.c (.own 1 q1)),(0,.c (.int .i64 (Int.ofNat q1))),(0,.c (.int .i64 (k+1)))],[q0,.own 6 l 81,.aF [.int .i64 time] 3,.aF [.own 4 (nn+1)] 52,.own 4 (nw++([q3.f])) 54]⟩))))) (.aa (ae (k+1)) (.ret (.cut (cutAt Tryz.f32 3) ⟨bc 29 [(0,.c (.ptr 0 0 0)),(2,.c (.ptr 2 0 0)),(0,.c (.ptr 3 0 0)),(5,.c (.own 1 q1)),(0,.c (.int .i64 (Int.ofNat q1))),(0,.c (.int .i64 (k+1)))],[q0,.own 6 l 81,.aF [.int .i64 time] 3,.aF [.own 4 (nn)] 52,.own 4 nw 54]⟩)))))) (.aa (((0=0∧nn=List.length nw)∧(List.length nw≤32∧((0:Int)≤500∧(500:Int)≤60000)))) (.aa (((List.length l=List.length l∧List.length q2=List.length q2)∧(List.length l≤100∧List.length q2≤100))) (.ret (.fin (.aP []) [.aF [.int .i64 r1,.int .i64 r2,.int .i64 r3,.int .i64 r4,.int .i64 r5,.int .i64 r6,.ai 1 0 (F.kept (F.del q2 time) l).length false,.int .i64 nx,.int .i64 la] 62,.own 6 (F.fO (F.del q2 time) l) 81]))))):=by kernel_rfl
theorem Na (l:List F.cU) (band:Int):∀(q:Nat) (k:Int) (out:List F.cU),(F.YH l band q k out).length≤out.length+q
 | 0,_,out=>Nat.le_refl _
 | q+1,k,out=>by
   unfold F.YH;have:=Na l band q (k+1) (if F.Zb l band k l.length 0 true=true then out++[F.g20 l k] else out);split at this
   ·rename_i h;rw [if_pos h];rw [List.length_append,List.length_singleton] at this;omega
   ·rename_i h;rw [if_neg h];omega
theorem YK (l:List F.cU) (band:Int):(F.Ie l band).length≤l.length:=by
 unfold F.Ie;split
 ·have:=Na l band l.length 0 [];rw [List.length_nil] at this;omega
 ·exact Nat.zero_le _
theorem Zv (l:List F.bJ) (time:Int) (x:F.bJ):F.now (l++[x]) time=F.now l time++(if x.f.t.tm=time then [x.f] else []):=by
 unfold F.now;rw [List.filter_append,List.map_append];congr 1;by_cases c:x.f.t.tm=time
 ·rw [if_pos c,List.filter_cons,if_pos (decide_eq_true c)];rfl
 ·rw [if_neg c,List.filter_cons,if_neg (by rw [decide_eq_false c];decide)];rfl
theorem ace (r1 r2 r3 r4 r5 r6 nx la:Int) (l:List F.bJ) (time:Int) (hl:l.length≤32) (b0:aC) (hb:b0.n=2):∀(q k:Nat) (nw:List F.cU) (nn:Nat),k+q=l.length→nn=nw.length→nn≤k→nw=F.now (l.take k) time→
 Sym.af Tryz.prog b0 (cutAt Tryz.f32 3) (HO r1 r2 r3 r4 r5 r6 nx la l time nw nn (k:Int)) (Sym.eM Tryz.prog Tryz.f32 ([.aF [.int .i64 r1,.int .i64 r2,.int .i64 r3,.int .i64 r4,.int .i64 r5,.int .i64 r6,.own 1 l.length,.int .i64 nx,.int .i64 la] 62,.own 6 l 81]:Heap cod) (.aP []) [.aF [.int .i64 r1,.int .i64 r2,.int .i64 r3,.int .i64 r4,.int .i64 r5,.int .i64 r6,.ai 1 0 (F.M7 l time).length false,.int .i64 nx,.int .i64 la] 62,.own 6 (F.Pg l time) 81]):=by
 intro q
 induction q with
 | zero=>
   intro k nw nn hk hn hle hw;rw [List.take_of_length_le (by omega)] at hw;have:=YK nw 500;have e:F.kept (F.del (F.Ie nw 500) time) l=F.M7 l time:=by unfold F.M7 F.fsP;rw [hw]
   have e2:F.fO (F.del (F.Ie nw 500) time) l=F.Pg l time:=by unfold F.Pg F.fsP;rw [hw]
   refine af.vU (cfg:=sF) nZ mixed na 400 hb (T7 r1 r2 r3 r4 r5 r6 nx la l time nw nn (k:Int)) ?_;simp only [T.wp,T.wp_cond,bF];refine ap (by rw [decide_eq_false (by simp only [Int.ofNat_eq_natCast];omega)];decide) ⟨⟨⟨trivial,hn⟩,by omega,by decide,by decide⟩,⟨⟨trivial,trivial⟩,by omega,by omega⟩,?_⟩;rw [e,e2]
   exact (by first | exact ⟨rfl,rfl⟩ | exact ⟨rfl,trivial⟩ | exact ⟨trivial,rfl⟩ | exact ⟨trivial,trivial⟩)
 | succ q ih=>
   intro k nw nn hk hn hle hw;have fx:k < l.length:=by omega
   have ki:ae ((k:Int)+1):=by unfold ae;omega
   have ed:(cod 6).d=F.eK:=rfl
   have es:F.now (l.take (k+1)) time=nw++(if (l.getD k F.eK).f.t.tm=time then [(l.getD k F.eK).f] else []):=by
    rw [et l F.eK k fx,hw];exact Zv _ _ _
   refine af.vU (cfg:=sF) nZ mixed na 400 hb (T7 r1 r2 r3 r4 r5 r6 nx la l time nw nn (k:Int)) ?_;simp only [T.wp,T.wp_cond,bF,Int.toNat_natCast,Nat.zero_add];rw [ed];refine aq (decide_eq_true (by simp only [Int.ofNat_eq_natCast];omega)) ⟨by simp only [Int.ofNat_eq_natCast];omega,fx,?_⟩;generalize l.getD k F.eK=x at*;by_cases c:x.f.t.tm=time
   ·rw [if_pos c] at es;have fK:=ih (k+1) (nw++[x.f]) (nn+1) (by omega) (by rw [List.length_append,List.length_singleton,hn]) (by omega) es.symm;rw [Int.natCast_succ] at fK;exact aq (decide_eq_true c) ⟨trivial,by omega,ki,fK⟩
   ·rw [if_neg c,List.append_nil] at es;have fK:=ih (k+1) nw nn (by omega) hn (by omega) es.symm;rw [Int.natCast_succ] at fK;exact ap (by rw [decide_eq_false c];decide) ⟨ki,fK⟩
theorem YM (r1 r2 r3 r4 r5 r6 nx la:Int) (l:List F.bJ) (time:Int) (b0:aC) (hb:b0.n=2) (h0:l.length≤32):Sym.af Tryz.prog b0 [.code (aj Tryz.f32)] ⟨ay Tryz.f32 [.c (.ptr 0 0 0),.c (.int .i64 time)],([.aF [.int .i64 r1,.int .i64 r2,.int .i64 r3,.int .i64 r4,.int .i64 r5,.int .i64 r6,.own 1 l.length,.int .i64 nx,.int .i64 la] 62,.own 6 l 81]:Heap cod)⟩ (Sym.eM Tryz.prog Tryz.f32 ([.aF [.int .i64 r1,.int .i64 r2,.int .i64 r3,.int .i64 r4,.int .i64 r5,.int .i64 r6,.own 1 l.length,.int .i64 nx,.int .i64 la] 62,.own 6 l 81]:Heap cod) (.aP []) [.aF [.int .i64 r1,.int .i64 r2,.int .i64 r3,.int .i64 r4,.int .i64 r5,.int .i64 r6,.ai 1 0 (F.M7 l time).length false,.int .i64 nx,.int .i64 la] 62,.own 6 (F.Pg l time) 81]):=by
 refine af.vU (cfg:=sF) nZ mixed na 400 hb (acf r1 r2 r3 r4 r5 r6 nx la l time) ?_;simp only [T.wp,bF];exact af.made 3 0 4 54 rfl rfl rfl (ace r1 r2 r3 r4 r5 r6 nx la l time h0 b0 hb l.length 0 [] 0 (by omega) rfl (by omega) rfl)
noncomputable def Wl:aH cod:=fun args H=>match args,H with
 | [.c (.ptr 0 0 0),.c (.int .i64 time)],[.aF [.int .i64 r1,.int .i64 r2,.int .i64 r3,.int .i64 r4,.int .i64 r5,.int .i64 r6,.own 1 ln,.int .i64 nx,.int .i64 la] 62,o1]=>(match o1.jz 6 81 with | some l=>.aa ((.aF [.int .i64 r1,.int .i64 r2,.int .i64 r3,.int .i64 r4,.int .i64 r5,.int .i64 r6,.own 1 ln,.int .i64 nx,.int .i64 la] 62:av cod)= .aF [.int .i64 r1,.int .i64 r2,.int .i64 r3,.int .i64 r4,.int .i64 r5,.int .i64 r6,.own 1 l.length,.int .i64 nx,.int .i64 la] 62) (.aa ((l.length≤32)) (.ret (.aP [],[.aF [.int .i64 r1,.int .i64 r2,.int .i64 r3,.int .i64 r4,.int .i64 r5,.int .i64 r6,.ai 1 0 (F.M7 l time).length false,.int .i64 nx,.int .i64 la] 62,.own 6 (F.Pg l time) 81]))) | none=>.fail)
 | _,_=>.fail
theorem Pm:dX Tryz.prog cod 32 Wl:=gg (cfg:=sF) Tryz.func32 rfl rfl _ fun args H r H' hg b0 hb=>by
 unfold Wl at hg;split at hg
 ·skip
  split at hg
  ·rename_i l yo;cases dY yo;obtain ⟨ot0,hg⟩:=hg;cases ot0;obtain ⟨hq,hg⟩:=hg;have q0:=hq;cases hg;exact YM _ _ _ _ _ _ _ _ _ _ b0 hb (by assumption)
  ·exact hg.elim
 ·exact hg.elim
noncomputable def Sg:aQ cod:=(32,.i Wl)::IM
noncomputable def gQ:aT cod:=c9 Sg
theorem ev:cv Tryz.prog cod Sg:=.FJ Pm nZ
end
end
section
namespace F
noncomputable def Ab (x:List bJ) (time a:Int):List bJ:=x.filter fun y=>decide (D3 y.f time a=0)
noncomputable def Xa (x:List bJ) (time a:Int):List dT:=(Ab x time a).map fun y=>(prd y.f time a).t
noncomputable def Xz (la time:Int):Int:=if 0≤la then min 60000 (500+200*(time - la)) else 60000
noncomputable def upC (a pl sg:Int) (sp:List Sp) (y:bJ) (k:Int):Bool:=decide (0≤k)&&decide (upE y.f (sp.getD k.toNat dq) a pl sg=0)
noncomputable def upS (n a pl sg:Int) (sp:List Sp) (y:bJ) (k:Int):Option bJ:=
 if upC a pl sg sp y k=true then some ⟨YS (upd y.f (sp.getD k.toNat dq) a pl sg),y.bh,y.bs,true⟩
 else if Au y.f n=0 then (if DQ y.f n=true then none else some ⟨Vo y.f n,y.bh,y.bs,false⟩) else none
noncomputable def upU (a pl sg:Int) (sp:List Sp) (y:bJ) (k:Int) (us:List Bool):List Bool:=if upC a pl sg sp y k=true then us.set k.toNat true else us
noncomputable def RF (n a pl sg:Int) (sp:List Sp) (al:List bJ) (to:List Int):Nat→List bJ
 | 0=>[]
 | q+1=>RF n a pl sg sp al to q++(upS n a pl sg sp (al.getD q eK) (to.getD q 0)).toList
noncomputable def Xf (a pl sg:Int) (sp:List Sp) (al:List bJ) (to:List Int):Nat→List Bool
 | 0=>List.replicate sp.length false
 | q+1=>upU a pl sg sp (al.getD q eK) (to.getD q 0) (Xf a pl sg sp al to q)
noncomputable def nwT (s:Sp) (ny:Int):bJ:=⟨⟨⟨ny,(gO s).t.st,(gO s).t.tm,(gO s).t.x,(gO s).t.y,(gO s).t.sx,(gO s).t.sy,(gO s).t.hg,(gO s).t.rt,(gO s).t.ra,(gO s).t.cd,(gO s).t.ht,(gO s).t.ms⟩,(gO s).sl,(gO s).lt,(gO s).lx,(gO s).ly,(gO s).lh,(gO s).lc,(gO s).le⟩,0,0,true⟩
noncomputable def uZ (us:List Bool) (sp:List Sp) (ta:List bJ) (nx:Int):Nat→List bJ×Int
 | 0=>(ta,nx)
 | q+1=>if us.getD q false=true∨32≤(uZ us sp ta nx q).1.length then uZ us sp ta nx q else ((uZ us sp ta nx q).1++[nwT (sp.getD q dq) (uZ us sp ta nx q).2],(uZ us sp ta nx q).2+1)
noncomputable def EI (a:Int) (x:List bJ) (la:Int) (sp:List Sp) (time:Int):List Int:=OE (jB (Xa x time a) sp (Xz la time)) 2147483648
noncomputable def scB (n a pl sg:Int) (x:List bJ) (nx la:Int) (sp:List Sp) (time:Int):List bJ×Int:=
 uZ (Xf a pl sg sp (Ab x time a) (EI a x la sp time) (Ab x time a).length) sp (RF n a pl sg sp (Ab x time a) (EI a x la sp time) (Ab x time a).length) nx sp.length
noncomputable def scC (r1 r2 n a pl sg:Int) (x:List bJ) (nx la:Int) (sp:List Sp) (time:Int):List bJ:=C7 r1 r2 (scB n a pl sg x nx la sp time).1
noncomputable def RC (n a pl sg:Int) (x:List bJ) (nx la:Int) (sp:List Sp) (time:Int):Int:=(scB n a pl sg x nx la sp time).2
noncomputable def WD (r1 r2 n a pl sg:Int) (x:List bJ) (nx la:Int) (sp:List Sp) (time:Int):List bJ:=M7 (scC r1 r2 n a pl sg x nx la sp time) time
noncomputable def XA (r1 r2 n a pl sg:Int) (x:List bJ) (nx la:Int) (sp:List Sp) (time:Int):List bJ:=Pg (scC r1 r2 n a pl sg x nx la sp time) time
noncomputable def Hn (r1 r2 n a pl sg:Int) (x:List bJ) (nx la:Int) (sp:List Sp) (time:Int):List dT:=(WD r1 r2 n a pl sg x nx la sp time).map fun y=>y.f.t
noncomputable def lW (r1 r2:Int) (x:List bJ) (xn:Nat) (nx la:Int) (s:List Sp) (time:Int):Prop:=
 lZ r1 r2=0∧ft s time∧(-1≤la∧la < time)∧(0≤nx∧nx≤1000000)∧xn≤x.length∧xn≤20∧xn+s.length≤32∧(xn=0∨0 < s.length)
end F
end
end Go.Proofs.YtcjagpfbhnmggaaGreatDoor
