/- Parts of the proof. -/
import Derived.Test.YtcjagpfbhnmggaaGreatDoorBd36
namespace Go.Proofs.YtcjagpfbhnmggaaGreatDoor
section
open Sym Go.RowKit
noncomputable section
set_option maxRecDepth 100000
set_option maxHeartbeats 4000000
namespace F
noncomputable def zY (h s:Int):Int:=if s < 0∨16 < s then 4 else if h < 0∨IntKind.wrap .i64 (1*2^(min s.toNat 64))≤h then 3 else 0
noncomputable def X4 (h s:Int) (fI:Bool):Int:=if zY h s=0 then nh h fI else 0
noncomputable def Xo (h s:Int):Int:=if zY h s=0 then min 16 (s+1) else 0
open Classical in
noncomputable def Rm (h s:Int) (fI:Bool) (aa of:Int):Int:=if zY h s=0 then wh (nh h fI) (min 16 (s+1)) aa of else 0
noncomputable def sm (f g:cU) (band:Int):Bool:=decide (f.t.tm=g.t.tm)&&((de (f.t.ra+g.t.ra) 0 8000000&&decide (iw f.t.x f.t.y g.t.x g.t.y≤(f.t.ra+g.t.ra)*(f.t.ra+g.t.ra)))&&(decide (max (f.t.hg - g.t.hg) (g.t.hg - f.t.hg)≤band)&&(decide (f.t.cd=g.t.cd)||decide (f.t.cd= -1)||decide (g.t.cd= -1))))
noncomputable def adj (f g:cU):Prop:=G5 f=0∧G5 g=0
end F
noncomputable def A6:bA:=[]
theorem XY (h s:Int):aI Cl A6 Tryz.f97.results.toList 0 400 [.code (aj Tryz.f97)] ⟨ay Tryz.f97 [.agg [.int .i64 h,.int .i64 s]],([]:Heap cod)⟩=
 cond (decide (s < 0)) (
 .ret (.fin (.c (.int .i64 4)) [])) (
 cond (decide (16 < s)) (
  .ret (.fin (.c (.int .i64 4)) [])) (
  cond (decide (h < 0)) (
   .ret (.fin (.c (.int .i64 3)) [])) (
   .aa ((0:Int)≤s) (
   cond (decide (IntKind.wrap .i64 (1*2^min s.toNat 64)≤h)) (
    .ret (.fin (.c (.int .i64 3)) [])) (
    .ret (.fin (.c (.int .i64 0)) [])))))):=by kernel_rfl
theorem S0 (h s:Int) (b0:aC) (hb:b0.n=0):Sym.af Tryz.prog b0 [.code (aj Tryz.f97)] ⟨ay Tryz.f97 [.agg [.int .i64 h,.int .i64 s]],([]:Heap cod)⟩ (Sym.Ends Tryz.prog Tryz.f97 0 (.c (.int .i64 (F.zY h s))) []):=by
 refine af.go (cfg:=Cl) pz mixed A6 400 hb (XY h s) ?_;simp only [T.wp,T.wp_cond,bF];by_cases c1:s < 0
 ·have e:F.zY h s=4:=by unfold F.zY;rw [if_pos (.inl c1)]
  rw [e];exact aq (decide_eq_true c1) ⟨rfl,trivial⟩
 refine ap (by rw [decide_eq_false c1];decide) ?_;by_cases c2:16 < s
 ·have e:F.zY h s=4:=by unfold F.zY;rw [if_pos (.inr c2)]
  rw [e];exact aq (decide_eq_true c2) ⟨rfl,trivial⟩
 refine ap (by rw [decide_eq_false c2];decide) ?_;have n1:¬(s < 0∨16 < s):=by omega
 by_cases c3:h < 0
 ·have e:F.zY h s=3:=by unfold F.zY;rw [if_neg n1,if_pos (.inl c3)]
  rw [e];exact aq (decide_eq_true c3) ⟨rfl,trivial⟩
 refine ap (by rw [decide_eq_false c3];decide) ⟨by omega,?_⟩;by_cases c4:IntKind.wrap .i64 (1*2^(min s.toNat 64))≤h
 ·have e:F.zY h s=3:=by unfold F.zY;rw [if_neg n1,if_pos (.inr c4)]
  rw [e];exact aq (decide_eq_true c4) ⟨rfl,trivial⟩
 ·have e:F.zY h s=0:=by unfold F.zY;rw [if_neg n1,if_neg (by rintro (q | q);exact c3 q;exact c4 q)]
  rw [e];exact ap (by rw [decide_eq_false c4];decide) ⟨rfl,trivial⟩
noncomputable def KV:aH cod:=fun args H=>match args,H with
 | [.agg [.int .i64 h,.int .i64 s]],[]=>.ret (.c (.int .i64 (F.zY h s)),[])
 | _,_=>.fail
theorem Jg:Sound Tryz.prog cod 97 KV:=ax (cfg:=Cl) pz mixed Tryz.func97 rfl rfl _ fun args H r news hg b0 hb=>by
 unfold KV at hg;split at hg
 ·skip
  cases hg;exact S0 _ _ b0 hb
 ·exact hg.elim
noncomputable def ID:aQ cod:=(97,.p KV)::Cz
noncomputable def Iq:aT cod:=c9 ID
theorem sP:cv Tryz.prog cod ID:=.cons Jg pz
theorem S3 {h s:Int} (e:F.zY h s=0):(0≤h∧h < 65536)∧(0≤s∧s≤16):=by
 unfold F.zY at e;by_cases c1:s < 0∨16 < s
 ·rw [if_pos c1] at e;cases e
 rw [if_neg c1] at e;by_cases c2:h < 0∨IntKind.wrap .i64 (1*2^(min s.toNat 64))≤h
 ·rw [if_pos c2] at e;cases e
 have hs:s.toNat≤16:=by omega
 have key:∀n:Nat,n≤16→IntKind.wrap .i64 (1*2^(min n 64))≤65536:=by decide
 have:=key s.toNat hs;omega
theorem QK {aa of:Int} (e:F.lZ aa of=0):1≤of∧of≤16∧1≤aa∧aa≤of:=by
 unfold F.lZ at e;split at e
 ·assumption
 ·cases e
noncomputable def xy:bA:=[]
theorem S6 (h s:Int) (fI:Bool) (aa:Int) (of:Int):aI Iq xy Tryz.f66.results.toList 0 400 [.code (aj Tryz.f66)] ⟨ay Tryz.f66 [.agg [.int .i64 h,.int .i64 s],.c (.bool fI),.c (.int .i64 aa),.c (.int .i64 of)],([]:Heap cod)⟩=
 cond (!decide (F.zY h s=0)) (
 .ret (.fin (.aP [.agg [.int .i64 0,.int .i64 0],.c (.int .i64 0),.c (.int .i64 (F.zY h s))]) [])) (
 cond (!decide (F.lZ aa of=0)) (
  .ret (.fin (.aP [.agg [.int .i64 0,.int .i64 0],.c (.int .i64 0),.c (.int .i64 (F.lZ aa of))]) [])) (
  .aa (((0:Int)≤h∧(h < 65536∧((1:Int)≤of∧(of≤16∧((1:Int)≤aa∧(aa≤of∧((0:Int)≤s∧s≤16)))))))) (
  .ret (.fin (.aP [.agg [.int .i64 (F.nh h fI),.int .i64 (min 16 (s+1))],.c (.int .i64 (F.wh (F.nh h fI) (min 16 (s+1)) aa of)),.c (.int .i64 0)]) [])))):=by kernel_rfl
theorem OF (h s:Int) (fI:Bool) (aa:Int) (of:Int) (b0:aC) (hb:b0.n=0) (h0:F.lZ aa of=0):Sym.af Tryz.prog b0 [.code (aj Tryz.f66)] ⟨ay Tryz.f66 [.agg [.int .i64 h,.int .i64 s],.c (.bool fI),.c (.int .i64 aa),.c (.int .i64 of)],([]:Heap cod)⟩ (Sym.Ends Tryz.prog Tryz.f66 0 (.aP [.agg [.int .i64 (F.X4 h s fI),.int .i64 (F.Xo h s)],.c (.int .i64 (F.Rm h s fI aa of)),.c (.int .i64 (F.zY h s))]) []):=by
 refine af.go (cfg:=Iq) sP mixed xy 400 hb (S6 h s fI aa of) ?_;simp only [T.wp,T.wp_cond,bF];obtain ⟨r1,r2,r3,r4⟩:=QK h0;by_cases c:F.zY h s=0
 ·have e1:F.X4 h s fI=F.nh h fI:=by unfold F.X4;rw [if_pos c]
  have e2:F.Xo h s=min 16 (s+1):=by unfold F.Xo;rw [if_pos c]
  have e3:F.Rm h s fI aa of=F.wh (F.nh h fI) (min 16 (s+1)) aa of:=by unfold F.Rm;rw [if_pos c]
  obtain ⟨⟨a1,a2⟩,a3,a4⟩:=S3 c;rw [e1,e2,e3,c];exact ap (by decide) (ap (by rw [h0];decide) ⟨⟨a1,a2,r1,r2,r3,r4,a3,a4⟩,rfl,trivial⟩)
 ·have e1:F.X4 h s fI=0:=by unfold F.X4;rw [if_neg c]
  have e2:F.Xo h s=0:=by unfold F.Xo;rw [if_neg c]
  have e3:F.Rm h s fI aa of=0:=by unfold F.Rm;rw [if_neg c]
  rw [e1,e2,e3];exact aq (by rw [decide_eq_false c];rfl) ⟨rfl,trivial⟩
noncomputable def Eg:aH cod:=fun args H=>match args,H with
 | [.agg [.int .i64 h,.int .i64 s],.c (.bool fI),.c (.int .i64 aa),.c (.int .i64 of)],[]=>.aa ((F.lZ aa of=0)) (.ret (.aP [.agg [.int .i64 (F.X4 h s fI),.int .i64 (F.Xo h s)],.c (.int .i64 (F.Rm h s fI aa of)),.c (.int .i64 (F.zY h s))],[]))
 | _,_=>.fail
theorem Fy:Sound Tryz.prog cod 66 Eg:=ax (cfg:=Iq) sP mixed Tryz.func66 rfl rfl _ fun args H r news hg b0 hb=>by
 unfold Eg at hg;split at hg
 ·skip
  simp only [T.ah,T.wp,Prod.mk.injEq] at hg;obtain ⟨q0,rfl,rfl⟩:=hg;exact OF _ _ _ _ _ b0 hb (by assumption)
 ·exact hg.elim
noncomputable def Cx:aQ cod:=(66,.p Eg)::ID
noncomputable def Ck:aT cod:=c9 Cx
theorem py:cv Tryz.prog cod Cx:=.cons Fy sP
noncomputable def xC:bA:=[]
theorem T4 (f:F.cU) (g:F.cU) (band:Int):aI Ck xC Tryz.f100.results.toList 0 400 [.code (aj Tryz.f100)] ⟨ay Tryz.f100 [.agg (ko.enc f),.agg (ko.enc g),.c (.int .i64 band)],([]:Heap cod)⟩=
 cond (decide (f.t.tm=g.t.tm)) (
 .aa (ae (f.t.ra+g.t.ra)) (
 .aa ((F.b9 f.t.x∧(F.b9 f.t.y∧(F.b9 g.t.x∧F.b9 g.t.y)))) (
 cond (F.de (f.t.ra+g.t.ra) 0 8000000&&decide (F.iw f.t.x f.t.y g.t.x g.t.y≤(f.t.ra+g.t.ra)*(f.t.ra+g.t.ra))) (
  .aa ((ae (f.t.hg - g.t.hg)∧ae (g.t.hg - f.t.hg))) (
  cond (decide (max (f.t.hg - g.t.hg) (g.t.hg - f.t.hg)≤band)) (
   cond (decide (f.t.cd=g.t.cd)) (
    .ret (.fin (.c (.bool true)) [])) (
    cond (decide (f.t.cd= -1)) (
     .ret (.fin (.c (.bool true)) [])) (
     .ret (.fin (.c (.bool (decide (g.t.cd= -1)))) [])))) (
   .ret (.fin (.c (.bool false)) [])))) (
  .ret (.fin (.c (.bool false)) []))))) (
 .ret (.fin (.c (.bool false)) [])):=by kernel_rfl
theorem Ph (f:F.cU) (g:F.cU) (band:Int) (b0:aC) (hb:b0.n=0) (h0:F.adj f g):Sym.af Tryz.prog b0 [.code (aj Tryz.f100)] ⟨ay Tryz.f100 [.agg (ko.enc f),.agg (ko.enc g),.c (.int .i64 band)],([]:Heap cod)⟩ (Sym.Ends Tryz.prog Tryz.f100 0 (.c (.bool (F.sm f g band))) []):=by
 obtain ⟨g1,g2⟩:=h0;obtain ⟨k1,k2,k3,k4,k5,k6,_⟩:=gf g1;obtain ⟨j1,j2,j3,j4,j5,j6,_⟩:=gf g2;refine af.go (cfg:=Ck) py mixed xC 400 hb (T4 f g band) ?_;unfold F.sm;simp only [T.wp,T.wp_cond,bF]
 cases decide (f.t.tm=g.t.tm) with
 | false=>exact ap (by decide) ⟨rfl,trivial⟩
 | true=>
   refine aq rfl ⟨by unfold ae;omega,⟨by unfold F.b9;omega,by unfold F.b9;omega,by unfold F.b9;omega,by unfold F.b9;omega⟩,?_⟩
   cases (F.de (f.t.ra+g.t.ra) 0 8000000&&decide (F.iw f.t.x f.t.y g.t.x g.t.y≤(f.t.ra+g.t.ra)*(f.t.ra+g.t.ra))) with
   | false=>exact ap (by decide) ⟨rfl,trivial⟩
   | true=>
     refine aq rfl ⟨⟨by unfold ae;omega,by unfold ae;omega⟩,?_⟩
     cases decide (max (f.t.hg - g.t.hg) (g.t.hg - f.t.hg)≤band) with
     | false=>exact ap (by decide) ⟨rfl,trivial⟩
     | true=>
       refine aq rfl ?_
       cases decide (f.t.cd=g.t.cd) with
       | true=>exact aq rfl ⟨rfl,trivial⟩
       | false=>
         refine ap (by decide) ?_
         cases decide (f.t.cd= -1) with
         | true=>exact aq rfl ⟨rfl,trivial⟩
         | false=>
           refine ap (by decide) ⟨?_,trivial⟩;cases decide (g.t.cd= -1)<;>rfl
noncomputable def Eo:aH cod:=fun args H=>match args,H with
 | [.agg F5,.agg aet,.c (.int .i64 band)],[]=>(match ko.ok F5 with | true=>(fun f:F.cU=>(match ko.ok aet with | true=>(fun g:F.cU=>.aa ((F.adj f g)) (.ret (.c (.bool (F.sm f g band)),[]))) (ko.dec aet) | false=>.fail)) (ko.dec F5) | false=>.fail)
 | _,_=>.fail
theorem Gg:Sound Tryz.prog cod 100 Eo:=ax (cfg:=Ck) py mixed Tryz.func100 rfl rfl _ fun args H r news hg b0 hb=>by
 unfold Eo at hg;split at hg
 ·skip
  split at hg
  ·rename_i Uq;obtain ⟨f,rfl,TI⟩:=aO.back Uq;rw [TI] at hg
   try dsimp only at hg
   split at hg
   ·rename_i ahJ;obtain ⟨g,rfl,aha⟩:=aO.back ahJ;rw [aha] at hg
    try dsimp only at hg
    simp only [T.ah,T.wp,Prod.mk.injEq] at hg;obtain ⟨q0,rfl,rfl⟩:=hg;exact Ph _ _ _ b0 hb (by assumption)
   ·exact hg.elim
  ·exact hg.elim
 ·exact hg.elim
noncomputable def CG:aQ cod:=(100,.p Eo)::Cx
noncomputable def Cm:aT cod:=c9 CG
theorem pA:cv Tryz.prog cod CG:=.cons Gg py
namespace F
noncomputable def g20 (l:List cU) (i:Int):cU:=l.getD i.toNat Mt
noncomputable def btr (l:List cU) (i k:Int):Bool:=decide (Ii [eA (g20 l i).t.ra (g20 l k).t.ra,eA (g20 l k).t.ht (g20 l i).t.ht,eA (g20 l i).t.id (g20 l k).t.id,eA i k] < 0)
noncomputable def inI (l:List cU) (i k:Int):Prop:=(0≤i∧i < l.length)∧(0≤k∧k < l.length)
noncomputable def prf (l:List cU) (band i k:Int):Bool:=decide (i≠k)&&(sm (g20 l k) (g20 l i) band&&(decide ((g20 l k).t.cd=(g20 l i).t.cd)&&(decide ((g20 l k).t.cd≠-1)&&btr l i k)))
noncomputable def Zb (l:List cU) (band k:Int):Nat→Int→Bool→Bool
 | 0,_,b=>b
 | q+1,i,b=>Zb l band k q (i+1) (if prf l band i k=true then false else b)
noncomputable def YH (l:List cU) (band:Int):Nat→Int→List cU→List cU
 | 0,_,out=>out
 | q+1,k,out=>YH l band q (k+1) (if Zb l band k l.length 0 true=true then out++[g20 l k] else out)
noncomputable def Rn (l:List cU):Nat→Int→Int
 | 0,_=>0
 | q+1,k=>if G5 (g20 l k)=0 then Rn l q (k+1) else G5 (g20 l k)
noncomputable def Ie (l:List cU) (band:Int):List cU:=if Rn l l.length 0=0 then YH l band l.length 0 [] else []
end F
noncomputable def uL:bA:=[]
theorem OC (i:Int) (k:Int) (l:List F.cU) (aA:Bool):aI Cm uL Tryz.f99.results.toList 2 400 [.code (aj Tryz.f99)] ⟨ay Tryz.f99 [.c (.int .i64 i),.c (.int .i64 k),.c (.ptr 0 0 0)],([.aY [.ai 1 0 l.length aA],.aB 4 l]:Heap cod)⟩=
 (let q0:=List.getD l (0+Int.toNat i) (cod 4).d;
 let q1:=List.getD l (0+Int.toNat k) (cod 4).d;
 .aa (((0:Int)≤i∧i < Int.ofNat l.length)) (.aa (0+Int.toNat i < List.length l) (.aa (((0:Int)≤k∧k < Int.ofNat l.length)) (.aa (0+Int.toNat k < List.length l) (.aa (((0=0∧4=4)∧(4:Nat)≤1000)) (.ret (.fin (.c (.bool (decide (F.Ii [F.eA q0.t.ra q1.t.ra,F.eA q1.t.ht q0.t.ht,F.eA q0.t.id q1.t.id,F.eA i k] < 0)))) []))))))):=by kernel_rfl
theorem Jk (i:Int) (k:Int) (l:List F.cU) (aA:Bool) (b0:aC) (hb:b0.n=2) (h0:F.inI l i k):Sym.af Tryz.prog b0 [.code (aj Tryz.f99)] ⟨ay Tryz.f99 [.c (.int .i64 i),.c (.int .i64 k),.c (.ptr 0 0 0)],([.aY [.ai 1 0 l.length aA],.aB 4 l]:Heap cod)⟩ (Sym.Ends Tryz.prog Tryz.f99 2 (.c (.bool (F.btr l i k))) []):=by
 refine af.go (cfg:=Cm) pA mixed uL 400 hb (OC i k l aA) ?_;obtain ⟨⟨a1,a2⟩,a3,a4⟩:=h0;simp only [T.wp,bF,Nat.zero_add];exact ⟨⟨a1,a2⟩,by omega,⟨a3,a4⟩,by omega,⟨⟨trivial,trivial⟩,by decide⟩,rfl,trivial⟩
noncomputable def yT:aH cod:=fun args H=>match args,H with
 | [.c (.int .i64 i),.c (.int .i64 k),.c (.ptr 0 0 0)],[.aY [.ai 1 cF cA _],o1]=>(match o1.cV 4 with | some l=>.aa ((cF=0∧cA=List.length l)∧(F.inI l i k)) (.ret (.c (.bool (F.btr l i k)),[])) | none=>.fail)
 | _,_=>.fail
theorem C1:Sound Tryz.prog cod 99 yT:=ax (cfg:=Cm) pA mixed Tryz.func99 rfl rfl _ fun args H r news hg b0 hb=>by
 unfold yT at hg;split at hg
 ·skip
  split at hg
  ·rename_i l yo;cases aR yo;simp only [T.ah,T.wp,Prod.mk.injEq] at hg;obtain ⟨⟨⟨rfl,rfl⟩,q1⟩,rfl,rfl⟩:=hg;exact Jk _ _ _ _ b0 hb (by assumption)
  ·exact hg.elim
 ·exact hg.elim
noncomputable def wH:aQ cod:=(99,.p yT)::CG
noncomputable def eu:aT cod:=c9 wH
theorem dJ:cv Tryz.prog cod wH:=.cons C1 pA
noncomputable def eY:bA:=[(4,[19,1,2,20,21],3),(15,[9,1,2,34,35,36,10],4),(19,[11,9,12,1,41,2,34,35,36,10,42,43,13],5)]
theorem acd (l:List F.cU) (aA:Bool) (band:Int):aI eu eY Tryz.f67.results.toList 1 400 [.code (aj Tryz.f67)] ⟨ay Tryz.f67 [.c (.ai 0 0 l.length aA),.c (.int .i64 band)],([.aB 4 l]:Heap cod)⟩=
 (let q0:=List.length l;
 cond (decide (32 < Int.ofNat q0)) (.ret (.fin (.aP [.c (.own 1 0),.c (.int .i64 2)]) [.own 4 [] 54])) (.ret (.cut (cutAt Tryz.f67 4) ⟨bc 64 [(1,.c (.int .i64 band)),(0,.c (.ptr 1 0 0)),(16,.c (.ai 0 0 q0 aA)),(0,.c (.int .i64 (Int.ofNat q0))),(0,.c (.int .i64 0))],[.aB 4 l,.aF [.ai 0 0 q0 aA] 52,.own 4 [] 54]⟩))):=by kernel_rfl
noncomputable def HN (l:List F.cU) (aA:Bool) (band:Int) (k:Int):St cod:=⟨bc 64 [(1,.c (.int .i64 band)),(0,.c (.ptr 1 0 0)),(16,.c (.ai 0 0 l.length aA)),(0,.c (.int .i64 (Int.ofNat l.length))),(0,.c (.int .i64 k))],[.aB 4 l,.aF [.ai 0 0 l.length aA] 52,.own 4 [] 54]⟩
theorem T5 (l:List F.cU) (aA:Bool) (band:Int) (k:Int):aI eu eY Tryz.f67.results.toList 1 400 (cutAt Tryz.f67 4) (HN l aA band k)=
 (let q0:=List.length l;
 let q1:=List.getD l (0+Int.toNat k) (cod 4).d;
 cond (decide (k < Int.ofNat q0)) (.aa (((0:Int)≤k∧k < Int.ofNat q0)) (.aa (0+Int.toNat k < List.length l) (cond (!decide (F.G5 q1=0)) (.ret (.fin (.aP [.c (.own 1 0),.c (.int .i64 (F.G5 q1))]) [.own 4 [] 54])) (.aa (ae (k+1)) (.ret (.cut (cutAt Tryz.f67 4) ⟨bc 64 [(1,.c (.int .i64 band)),(0,.c (.ptr 1 0 0)),(16,.c (.ai 0 0 q0 aA)),(0,.c (.int .i64 (Int.ofNat q0))),(0,.c (.int .i64 (k+1)))],[.aB 4 l,.aF [.ai 0 0 q0 aA] 52,.own 4 [] 54]⟩)))))) (cond (F.wr band) (.ret (.fin (.aP [.c (.own 1 0),.c (.int .i64 4)]) [.own 4 [] 54])) (.ret (.cut (cutAt Tryz.f67 15) ⟨bc 49 [(1,.c (.int .i64 band)),(0,.c (.ptr 1 0 0)),(6,.c (.fn 99 [(1,0,0)])),(0,.c (.own 3 0)),(23,.c (.ai 0 0 q0 aA)),(0,.c (.int .i64 (Int.ofNat q0))),(0,.c (.int .i64 0))],[.aB 4 l,.aF [.ai 0 0 q0 aA] 52,.own 4 [] 54,.own 4 [] 54]⟩)))):=by kernel_rfl
noncomputable def uk (l:List F.cU) (aA:Bool) (band:Int) (out:List F.cU) (on:Nat) (k:Int):St cod:=⟨bc 49 [(1,.c (.int .i64 band)),(0,.c (.ptr 1 0 0)),(6,.c (.fn 99 [(1,0,0)])),(0,.c (.own 3 on)),(23,.c (.ai 0 0 l.length aA)),(0,.c (.int .i64 (Int.ofNat l.length))),(0,.c (.int .i64 k))],([.aB 4 l,.aF [.ai 0 0 l.length aA] 52,.own 4 [] 54,.own 4 out 54]:Heap cod)⟩
theorem Nb (l:List F.cU) (aA:Bool) (band:Int) (out:List F.cU) (on:Nat) (k:Int):aI eu eY Tryz.f67.results.toList 1 400 (cutAt Tryz.f67 15) (uk l aA band out on k)=
 (let q0:=List.getD l (0+Int.toNat k) (cod 4).d;
 let q1:=List.length l;
 cond (decide (k < Int.ofNat q1)) (.aa (((0:Int)≤k∧k < Int.ofNat q1)) (.aa (0+Int.toNat k < List.length l) (.ret (.cut (cutAt Tryz.f67 19) ⟨bc 42 [(1,.c (.int .i64 band)),(0,.c (.ptr 1 0 0)),(6,.c (.fn 99 [(1,0,0)])),(0,.c (.own 3 (on))),(0,.c (.int .i64 k)),(0,.c (.ptr 4 0 0)),(0,.c (.bool true)),(20,.c (.ai 0 0 q1 aA)),(0,.c (.int .i64 (Int.ofNat q1))),(0,.c (.int .i64 k)),(4,.c (.ai 0 0 q1 aA)),(0,.c (.int .i64 (Int.ofNat q1))),(0,.c (.int .i64 0))],[.aB 4 l,.aF [.ai 0 0 q1 aA] 52,.own 4 [] 54,.own 4 out 54,.aF [.int .i64 (q0.t.id),.int .i64 (q0.t.st),.int .i64 (q0.t.tm),.int .i64 (q0.t.x),.int .i64 (q0.t.y),.int .i64 (q0.t.sx),.int .i64 (q0.t.sy),.int .i64 (q0.t.hg),.int .i64 (q0.t.rt),.int .i64 (q0.t.ra),.int .i64 (q0.t.cd),.int .i64 (q0.t.ht),.int .i64 (q0.t.ms),.int .i64 (q0.sl),.int .i64 (q0.lt),.int .i64 (q0.lx),.int .i64 (q0.ly),.int .i64 (q0.lh),.int .i64 (q0.lc),.int .i64 (q0.le)] 54]⟩)))) (.ret (.fin (.aP [.c (.own 1 (on)),.c (.int .i64 0)]) [.own 4 out 54]))):=by kernel_rfl
noncomputable def B7 (l:List F.cU) (aA:Bool) (band:Int) (out:List F.cU) (on:Nat) (k:Int) (f:F.cU) (b:Bool) (i:Int):St cod:=⟨bc 42 [(1,.c (.int .i64 band)),(0,.c (.ptr 1 0 0)),(6,.c (.fn 99 [(1,0,0)])),(0,.c (.own 3 (on))),(0,.c (.int .i64 k)),(0,.c (.ptr 4 0 0)),(0,.c (.bool b)),(20,.c (.ai 0 0 l.length aA)),(0,.c (.int .i64 (Int.ofNat l.length))),(0,.c (.int .i64 k)),(4,.c (.ai 0 0 l.length aA)),(0,.c (.int .i64 (Int.ofNat l.length))),(0,.c (.int .i64 i))],([.aB 4 l,.aF [.ai 0 0 l.length aA] 52,.own 4 [] 54,.own 4 out 54,.aF [.int .i64 f.t.id,.int .i64 f.t.st,.int .i64 f.t.tm,.int .i64 f.t.x,.int .i64 f.t.y,.int .i64 f.t.sx,.int .i64 f.t.sy,.int .i64 f.t.hg,.int .i64 f.t.rt,.int .i64 f.t.ra,.int .i64 f.t.cd,.int .i64 f.t.ht,.int .i64 f.t.ms,.int .i64 f.sl,.int .i64 f.lt,.int .i64 f.lx,.int .i64 f.ly,.int .i64 f.lh,.int .i64 f.lc,.int .i64 f.le] 54]:Heap cod)⟩
theorem Nc (l:List F.cU) (aA:Bool) (band:Int) (out:List F.cU) (on:Nat) (k:Int) (f:F.cU) (b:Bool) (i:Int):aI eu eY Tryz.f67.results.toList 1 400 (cutAt Tryz.f67 19) (B7 l aA band out on k f b i)=
 (let q0:av cod:=.aF [.int .i64 f.t.id,.int .i64 f.t.st,.int .i64 f.t.tm,.int .i64 f.t.x,.int .i64 f.t.y,.int .i64 f.t.sx,.int .i64 f.t.sy,.int .i64 f.t.hg,.int .i64 f.t.rt,.int .i64 f.t.ra,.int .i64 f.t.cd,.int .i64 f.t.ht,.int .i64 f.t.ms,.int .i64 f.sl,.int .i64 f.lt,.int .i64 f.lx,.int .i64 f.ly,.int .i64 f.lh,.int .i64 f.lc,.int .i64 f.le] 54;
 let q1:=List.length l;
 let q2:=Int.ofNat q1;
 let q3:av cod:=.aF [.ai 0 0 q1 aA] 52;
 let q4:=List.getD l (0+Int.toNat i) (cod 4).d;
 cond (decide (i < Int.ofNat q1)) (.aa (((0:Int)≤i∧i < Int.ofNat q1)) (.aa (0+Int.toNat i < List.length l) (cond (!decide (i=k)) (.aa (F.adj f q4) (cond (F.sm f q4 band) (cond (decide (f.t.cd=q4.t.cd)) (cond (!decide (f.t.cd= -1)) (.aa (((0=0∧List.length l=List.length l)∧F.inI l i k)) (cond (F.btr l i k) (.aa (ae (i+1)) (.ret (.cut (cutAt Tryz.f67 19) ⟨bc 42 [(1,.c (.int .i64 band)),(0,.c (.ptr 1 0 0)),(6,.c (.fn 99 [(1,0,0)])),(0,.c (.own 3 (on))),(0,.c (.int .i64 k)),(0,.c (.ptr 4 0 0)),(0,.c (.bool false)),(20,.c (.ai 0 0 q1 aA)),(0,.c (.int .i64 q2)),(0,.c (.int .i64 k)),(4,.c (.ai 0 0 q1 aA)),(0,.c (.int .i64 q2)),(0,.c (.int .i64 (i+1)))],[.aB 4 l,q3,.own 4 [] 54,.own 4 out 54,q0]⟩))) (.aa (ae (i+1)) (.ret (.cut (cutAt Tryz.f67 19) ⟨bc 42 [(1,.c (.int .i64 band)),(0,.c (.ptr 1 0 0)),(6,.c (.fn 99 [(1,0,0)])),(0,.c (.own 3 (on))),(0,.c (.int .i64 k)),(0,.c (.ptr 4 0 0)),(0,.c (.bool b)),(20,.c (.ai 0 0 q1 aA)),(0,.c (.int .i64 q2)),(0,.c (.int .i64 k)),(4,.c (.ai 0 0 q1 aA)),(0,.c (.int .i64 q2)),(0,.c (.int .i64 (i+1)))],[.aB 4 l,q3,.own 4 [] 54,.own 4 out 54,q0]⟩))))) (.aa (ae (i+1)) (.ret (.cut (cutAt Tryz.f67 19) ⟨bc 42 [(1,.c (.int .i64 band)),(0,.c (.ptr 1 0 0)),(6,.c (.fn 99 [(1,0,0)])),(0,.c (.own 3 (on))),(0,.c (.int .i64 k)),(0,.c (.ptr 4 0 0)),(0,.c (.bool b)),(20,.c (.ai 0 0 q1 aA)),(0,.c (.int .i64 q2)),(0,.c (.int .i64 k)),(4,.c (.ai 0 0 q1 aA)),(0,.c (.int .i64 q2)),(0,.c (.int .i64 (i+1)))],[.aB 4 l,q3,.own 4 [] 54,.own 4 out 54,q0]⟩)))) (.aa (ae (i+1)) (.ret (.cut (cutAt Tryz.f67 19) ⟨bc 42 [(1,.c (.int .i64 band)),(0,.c (.ptr 1 0 0)),(6,.c (.fn 99 [(1,0,0)])),(0,.c (.own 3 (on))),(0,.c (.int .i64 k)),(0,.c (.ptr 4 0 0)),(0,.c (.bool b)),(20,.c (.ai 0 0 q1 aA)),(0,.c (.int .i64 q2)),(0,.c (.int .i64 k)),(4,.c (.ai 0 0 q1 aA)),(0,.c (.int .i64 q2)),(0,.c (.int .i64 (i+1)))],[.aB 4 l,q3,.own 4 [] 54,.own 4 out 54,q0]⟩)))) (.aa (ae (i+1)) (.ret (.cut (cutAt Tryz.f67 19) ⟨bc 42 [(1,.c (.int .i64 band)),(0,.c (.ptr 1 0 0)),(6,.c (.fn 99 [(1,0,0)])),(0,.c (.own 3 (on))),(0,.c (.int .i64 k)),(0,.c (.ptr 4 0 0)),(0,.c (.bool b)),(20,.c (.ai 0 0 q1 aA)),(0,.c (.int .i64 q2)),(0,.c (.int .i64 k)),(4,.c (.ai 0 0 q1 aA)),(0,.c (.int .i64 q2)),(0,.c (.int .i64 (i+1)))],[.aB 4 l,q3,.own 4 [] 54,.own 4 out 54,q0]⟩))))) (.aa (ae (i+1)) (.ret (.cut (cutAt Tryz.f67 19) ⟨bc 42 [(1,.c (.int .i64 band)),(0,.c (.ptr 1 0 0)),(6,.c (.fn 99 [(1,0,0)])),(0,.c (.own 3 (on))),(0,.c (.int .i64 k)),(0,.c (.ptr 4 0 0)),(0,.c (.bool b)),(20,.c (.ai 0 0 q1 aA)),(0,.c (.int .i64 q2)),(0,.c (.int .i64 k)),(4,.c (.ai 0 0 q1 aA)),(0,.c (.int .i64 q2)),(0,.c (.int .i64 (i+1)))],[.aB 4 l,q3,.own 4 [] 54,.own 4 out 54,q0]⟩)))))) (cond (b) (.aa (1=1) (.aa (on+1≤1000000) (.aa (ae (k+1)) (.ret (.cut (cutAt Tryz.f67 15) ⟨bc 49 [(1,.c (.int .i64 band)),(0,.c (.ptr 1 0 0)),(6,.c (.fn 99 [(1,0,0)])),(0,.c (.own 3 (on+1))),(23,.c (.ai 0 0 q1 aA)),(0,.c (.int .i64 q2)),(0,.c (.int .i64 (k+1)))],[.aB 4 l,q3,.own 4 [] 54,.own 4 (out++[f]) 54]⟩))))) (.aa (ae (k+1)) (.ret (.cut (cutAt Tryz.f67 15) ⟨bc 49 [(1,.c (.int .i64 band)),(0,.c (.ptr 1 0 0)),(6,.c (.fn 99 [(1,0,0)])),(0,.c (.own 3 (on))),(23,.c (.ai 0 0 q1 aA)),(0,.c (.int .i64 q2)),(0,.c (.int .i64 (k+1)))],[.aB 4 l,q3,.own 4 [] 54,.own 4 out 54]⟩))))):=by kernel_rfl
theorem M9 (l:List F.cU):∀(q:Nat) (k:Int),F.Rn l q k=0→∀j:Int,k≤j→j < k+q→F.G5 (F.g20 l j)=0
 | 0,k,_,j,h1,h2=>by omega
 | q+1,k,h,j,h1,h2=>by
   unfold F.Rn at h;split at h
   ·rename_i c;by_cases e:j=k
    ·rw [e];exact c
    ·exact M9 l q (k+1) h j (by omega) (by omega)
   ·rename_i c;exact absurd h c
theorem YJ (l:List F.cU) (aA:Bool) (band:Int) (hl:l.length≤32) (iI:∀j:Int,0≤j→j < l.length→F.G5 (F.g20 l j)=0) (b0:aC) (hb:b0.n=1) (R:SV) (N:Heap cod) (out:List F.cU) (on:Nat) (ho:on≤100) (k:Int) (hk:0≤k∧k < l.length) (K:Bool)
 (nx:Sym.af Tryz.prog b0 (cutAt Tryz.f67 15) (uk l aA band (if K=true then out++[F.g20 l k] else out) (if K=true then on+1 else on) (k+1)) (Sym.Ends Tryz.prog Tryz.f67 1 R N)):∀(q:Nat) (i:Int) (b:Bool),0≤i→i+q=l.length→F.Zb l band k q i b=K→
 Sym.af Tryz.prog b0 (cutAt Tryz.f67 19) (B7 l aA band out on k (F.g20 l k) b i) (Sym.Ends Tryz.prog Tryz.f67 1 R N):=by
 intro q
 induction q with
 | zero=>
   intro i b h0 hi hK;unfold F.Zb at hK;subst hK;refine af.go (cfg:=eu) dJ mixed eY 400 hb (Nc l aA band out on k (F.g20 l k) b i) ?_;simp only [T.wp,T.wp_cond,bF];refine ap (by rw [decide_eq_false (by simp only [Int.ofNat_eq_natCast];omega)];decide) ?_;have ki:ae (k+1):=by unfold ae;omega
   cases b with
   | true=>exact aq rfl ⟨trivial,by omega,ki,nx⟩
   | false=>exact ap (by decide) ⟨ki,nx⟩
 | succ q ih=>
   intro i b h0 hi hK;unfold F.Zb at hK;have ii:ae (i+1):=by unfold ae;omega
   have step:=fun b' (eG:F.Zb l band k q (i+1) b'=K)=>ih (i+1) b' (by omega) (by omega) eG;have oki:=iI i h0 (by omega);have okk:=iI k hk.1 hk.2;have ei:l.getD (0+i.toNat) (cod 4).d=F.g20 l i:=by rw [Nat.zero_add];rfl
   have mB:(0:Int)≤i∧i < Int.ofNat l.length:=by simp only [Int.ofNat_eq_natCast];omega
   refine af.go (cfg:=eu) dJ mixed eY 400 hb (Nc l aA band out on k (F.g20 l k) b i) ?_;simp only [T.wp,T.wp_cond,bF];rw [ei];refine aq (decide_eq_true mB.2) ⟨mB,by omega,?_⟩;unfold F.prf at hK;by_cases c1:i=k
   ·rw [decide_eq_false (fun h=>h c1),Bool.false_and,if_neg (by decide)] at hK;exact ap (by rw [decide_eq_true c1];decide) ⟨ii,step b hK⟩
   rw [decide_eq_true c1,Bool.true_and] at hK;refine aq (by rw [decide_eq_false c1];decide) ⟨⟨okk,oki⟩,?_⟩
   cases c2:F.sm (F.g20 l k) (F.g20 l i) band with
   | false=>
     rw [c2,Bool.false_and,if_neg (by decide)] at hK
     exact ap (by decide) ⟨ii,step b hK⟩
   | true=>
     rw [c2,Bool.true_and] at hK;refine aq rfl ?_;by_cases c3:(F.g20 l k).t.cd=(F.g20 l i).t.cd
     ·rw [decide_eq_true c3,Bool.true_and] at hK;refine aq (decide_eq_true c3) ?_;by_cases c4:(F.g20 l k).t.cd= -1
      ·rw [decide_eq_false (fun h=>h c4),Bool.false_and,if_neg (by decide)] at hK;exact ap (by rw [decide_eq_true c4];decide) ⟨ii,step b hK⟩
      ·rw [decide_eq_true c4,Bool.true_and] at hK;refine aq (by rw [decide_eq_false c4];decide) ⟨⟨⟨trivial,trivial⟩,⟨h0,by omega⟩,hk⟩,?_⟩
       cases c5:F.btr l i k with
       | true=>
         rw [c5,if_pos rfl] at hK
         exact aq rfl ⟨ii,step false hK⟩
       | false=>
         rw [c5,if_neg (by decide)] at hK;exact ap (by decide) ⟨ii,step b hK⟩
     ·rw [decide_eq_false c3,Bool.false_and,if_neg (by decide)] at hK;exact ap (by rw [decide_eq_false c3];decide) ⟨ii,step b hK⟩
theorem YI (l:List F.cU) (aA:Bool) (band:Int) (hl:l.length≤32) (iI:∀j:Int,0≤j→j < l.length→F.G5 (F.g20 l j)=0) (b0:aC) (hb:b0.n=1) (R:SV) (N:Heap cod):∀(q:Nat) (k:Int) (out:List F.cU) (on:Nat),0≤k→k+q=l.length→on=out.length→on≤k.toNat→
 (.aP [.c (.own 1 (F.YH l band q k out).length),.c (.int .i64 0)]=R∧[.own 4 (F.YH l band q k out) 54]=N)→
 Sym.af Tryz.prog b0 (cutAt Tryz.f67 15) (uk l aA band out on k) (Sym.Ends Tryz.prog Tryz.f67 1 R N):=by
 intro q
 induction q with
 | zero=>
   intro k out on h0 hk ru hle hR;unfold F.YH at hR;rw [←ru] at hR;refine af.go (cfg:=eu) dJ mixed eY 400 hb (Nb l aA band out on k) ?_;simp only [T.wp,T.wp_cond,bF]
   exact ap (by rw [decide_eq_false (by simp only [Int.ofNat_eq_natCast];omega)];decide) hR
 | succ q ih=>
   intro k out on h0 hk ru hle hR;unfold F.YH at hR;have fx:(0:Int)≤k∧k < Int.ofNat l.length:=by simp only [Int.ofNat_eq_natCast];omega
   have ek:l.getD (0+k.toNat) (cod 4).d=F.g20 l k:=by rw [Nat.zero_add];rfl
   have nx:=ih (k+1) (if F.Zb l band k l.length 0 true=true then out++[F.g20 l k] else out) (if F.Zb l band k l.length 0 true=true then on+1 else on) (by omega) (by omega) (by
    split
    ·rw [List.length_append,List.length_singleton,ru]
    ·exact ru) (by split<;>omega) hR
   refine af.go (cfg:=eu) dJ mixed eY 400 hb (Nb l aA band out on k) ?_;simp only [T.wp,T.wp_cond,bF];rw [ek];exact aq (decide_eq_true fx.2) ⟨fx,by omega,YJ l aA band hl iI b0 hb R N out on (by omega) k ⟨h0,by omega⟩ _ nx l.length 0 true (by omega) (by omega) rfl⟩
theorem acb (l:List F.cU) (aA:Bool) (band:Int) (hl:l.length≤32) (hw:0≤band∧band≤60000) (b0:aC) (hb:b0.n=1):∀(q:Nat) (k:Int),0≤k→k+q=l.length→F.Rn l l.length 0=F.Rn l q k→
 Sym.af Tryz.prog b0 (cutAt Tryz.f67 4) (HN l aA band k) (Sym.Ends Tryz.prog Tryz.f67 1 (.aP [.c (.own 1 (F.Ie l band).length),.c (.int .i64 (F.Rn l l.length 0))]) [.own 4 (F.Ie l band) 54]):=by
 intro q
 induction q with
 | zero=>
   intro k h0 hk hE;have e0:F.Rn l l.length 0=0:=by rw [hE];rfl
   have eR:F.Ie l band=F.YH l band l.length 0 []:=by unfold F.Ie;rw [if_pos e0]
   rw [eR,e0]
   have Ns:F.wr band=false:=by
    unfold F.wr;rw [decide_eq_false (by omega),decide_eq_false (by omega)];rfl
   refine af.go (cfg:=eu) dJ mixed eY 400 hb (T5 l aA band k) ?_;simp only [T.wp,T.wp_cond,bF];refine ap (by rw [decide_eq_false (by simp only [Int.ofNat_eq_natCast];omega)];decide) (ap (by rw [Ns];decide) ?_)
   exact YI l aA band hl (fun j j1 j2=>M9 l l.length 0 e0 j j1 (by omega)) b0 hb _ _ l.length 0 [] 0 (by omega) (by omega) rfl (by omega) ⟨rfl,rfl⟩
 | succ q ih=>
   intro k h0 hk hE;have eU:F.Rn l (q+1) k=if F.G5 (F.g20 l k)=0 then F.Rn l q (k+1) else F.G5 (F.g20 l k):=rfl
   rw [eU] at hE;have fx:(0:Int)≤k∧k < Int.ofNat l.length:=by simp only [Int.ofNat_eq_natCast];omega
   have ek:l.getD (0+k.toNat) (cod 4).d=F.g20 l k:=by rw [Nat.zero_add];rfl
   refine af.go (cfg:=eu) dJ mixed eY 400 hb (T5 l aA band k) ?_;simp only [T.wp,T.wp_cond,bF];rw [ek];refine aq (decide_eq_true fx.2) ⟨fx,by omega,?_⟩;by_cases c:F.G5 (F.g20 l k)=0
   ·rw [if_pos c] at hE;exact ap (by rw [decide_eq_true c];decide) ⟨by unfold ae;omega,ih (k+1) (by omega) (by omega) hE⟩
   ·rw [if_neg c] at hE;have eR:F.Ie l band=[]:=by unfold F.Ie;rw [if_neg (by rw [hE];exact c)]
    rw [eR,hE];exact aq (by rw [decide_eq_false c];rfl) ⟨rfl,rfl⟩
theorem YL (l:List F.cU) (aA:Bool) (band:Int) (b0:aC) (hb:b0.n=1) (h0:List.length l≤32) (h1:0≤band∧band≤60000):Sym.af Tryz.prog b0 [.code (aj Tryz.f67)] ⟨ay Tryz.f67 [.c (.ai 0 0 l.length aA),.c (.int .i64 band)],([.aB 4 l]:Heap cod)⟩ (Sym.Ends Tryz.prog Tryz.f67 1 (.aP [.c (.own 1 (F.Ie l band).length),.c (.int .i64 (F.Rn l l.length 0))]) [.own 4 (F.Ie l band) 54]):=by
 refine af.go (cfg:=eu) dJ mixed eY 400 hb (acd l aA band) ?_;simp only [T.wp,T.wp_cond,bF];exact ap (by rw [decide_eq_false (by simp only [Int.ofNat_eq_natCast];omega)];decide) (acb l aA band h0 h1 b0 hb l.length 0 (by omega) (by omega) rfl)
noncomputable def Wj:aH cod:=fun args H=>match args,H with
 | [.c (.ai 0 cF cA _),.c (.int .i64 band)],[o0]=>(match o0.cV 4 with | some l=>.aa ((cF=0∧cA=List.length l)∧(List.length l≤32)∧(0≤band∧band≤60000)) (.ret (.aP [.c (.own 1 (F.Ie l band).length),.c (.int .i64 (F.Rn l l.length 0))],[.own 4 (F.Ie l band) 54])) | none=>.fail)
 | _,_=>.fail
theorem Pj:Sound Tryz.prog cod 67 Wj:=ax (cfg:=eu) dJ mixed Tryz.func67 rfl rfl _ fun args H r news hg b0 hb=>by
 unfold Wj at hg;split at hg
 ·skip
  split at hg
  ·rename_i l gG;cases aR gG;simp only [T.ah,T.wp,Prod.mk.injEq] at hg;obtain ⟨⟨⟨rfl,rfl⟩,q1,q2⟩,rfl,rfl⟩:=hg;exact YL _ _ _ b0 hb (by assumption) (by assumption)
  ·exact hg.elim
 ·exact hg.elim
noncomputable def Se:aQ cod:=(67,.p Wj)::wH
noncomputable def AL:aT cod:=c9 Se
theorem mJ:cv Tryz.prog cod Se:=.cons Pj dJ
end
end
namespace Sym
open Go.RowKit
section
variable {cod:Nat→aO} {P:Program}
noncomputable def yF (u:Nat) (cod:Nat→aO):HV:=⟨0,0,(cod u).size,.slice none 0 0,[]⟩
theorem Vt (w:World) (B u:Nat) (ty:TypeId):w.ownsRow B ty (cod u).size (.slice none 0 0) ([]:List (cod u).α).length (aN (cod u) []):=⟨by simp [aN],.inl ⟨rfl,rfl⟩⟩
theorem Zt (env:Env) (N:Nat) (w:World) (M:Nat→Prop) (u:Nat) (ty:TypeId):bH env N (yF u cod) w M (.own u [] ty:av cod):=
 oy (Vt w 0 u ty) (fun b hb=>by simp [Value.ownBlock] at hb) env N
theorem DS (u:Nat) (ty:TypeId) (b:Nat):¬(av.own u [] ty:av cod).has (yF u cod) b:=fun h=>by simp [av.has,yF,Value.ownBlock] at h
theorem Vs {env:Env} {N u:Nat} {h:Nat} (hh:h < N) (he:env h=yF u cod):bZ env N (.own h 0) (.slice none 0 0):=
 ⟨hh,by rw [he];rfl,none,0,rfl,Nat.le_refl _,Nat.zero_le _,fun h=>by omega⟩
noncomputable def St.made (k i u:Nat) (ty:TypeId) (st:St cod):St cod:=match getObj st.heap k with
 | .aF cs t=>{st with heap:=st.heap.set k (.aF (cs.set i (.own st.heap.length 0)) t)++[.own u [] ty]}
 | _=>st
theorem Vi {st:St cod} {b:aC} {a:Act} {w:World} (k i u:Nat) (ty:TypeId) {cs:List Cell} {t:TypeId} (ho:getObj st.heap k= .aF cs t) (hi:cs[i]? =some .nil) (hR:Rel st b a w):Rel (st.made k i u ty) b a w:=by
 have Gq:st.made k i u ty={st with heap:=st.heap.set k (.aF (cs.set i (.own st.heap.length 0)) t)++[.own u [] ty]}:=by
  unfold St.made;rw [ho]
 rw [Gq];obtain ⟨env,hF,hd,G,gY,so,zZ,tC⟩:=hR;have dN:=aE ho (by simp);have cI:k < st.heap.length:=(List.getElem?_eq_some_iff.1 dN).1;obtain ⟨h1,h2,vs,h3,h4⟩:=G.obj k _ dN;obtain ⟨v,hv,hvn⟩:=pW h4 hi;have hvn:v= .slice none 0 0:=hvn;subst hvn;have z6:=Env.l6 env st.heap.length (yF u cod);have hlen:(st.heap.set k (.aF (cs.set i (.own st.heap.length 0)) t)++[.own u [] ty]:Heap cod).length=st.heap.length+1:=by simp
 have aL:∀(j:Nat) (o:av cod),(st.heap.set k (.aF (cs.set i (.own st.heap.length 0)) t)++[.own u [] ty]:Heap cod)[j]? =some o→(j≠k∧j < st.heap.length∧st.heap[j]? =some o)∨(j=k∧o= .aF (cs.set i (.own st.heap.length 0)) t)∨(j=st.heap.length∧o= .own u [] ty):=fun j o hj=>by
  rcases Nat.lt_or_ge j st.heap.length with gP | gP
  ·rw [List.getElem?_append_left (by simpa using gP)] at hj;by_cases e:j=k
   ·subst e;rw [List.getElem?_set_self cI] at hj;exact .inr (.inl ⟨rfl,(Option.some.inj hj).symm⟩)
   ·rw [List.getElem?_set_ne (Ne.symm e)] at hj;exact .inl ⟨e,gP,hj⟩
  ·rw [List.getElem?_append_right (by simpa using gP)] at hj;simp only [List.length_set] at hj
   have:j - st.heap.length=0:=by
    rcases Nat.eq_zero_or_pos (j - st.heap.length) with e | e
    ·exact e
    ·rw [List.getElem?_eq_none (by simp;omega)] at hj;cases hj
   rw [this] at hj;exact .inr (.inr ⟨by omega,(Option.some.inj hj).symm⟩)
 refine ⟨env.set st.heap.length (yF u cod),?_,hd,⟨fun j o hj=>?_,fun j j' o o' c bP hj EX hw hc cY=>?_,G.sr⟩,gY,fun q hq hn=>?_,?_,fun q o hq hqo dS=>?_⟩
 ·simp only [hlen];exact ee (fun _ _ hr=>oM (by omega) z6 hr) hF
 ·simp only [hlen];rcases aL j o hj with ⟨g1,g2,g3⟩ | ⟨rfl,rfl⟩ | ⟨rfl,rfl⟩
  ·rw [Env.aD _ _ (by omega)];exact fZ (by omega) z6 (G.obj j o g3)
  ·rw [Env.aD _ _ (by omega)];refine ⟨h1,h2,vs,h3,?_⟩;have hm:=xZ (R:=bZ (env.set st.heap.length (yF u cod)) (st.heap.length+1)) (Vs (u:=u) (cod:=cod) (h:=st.heap.length) (by omega) (Env.aU _ _ _)) i (fN (by omega) z6 h4)
   have e:vs.set i (.slice none 0 0)=vs:=by
    obtain ⟨hl,hx⟩:=List.getElem?_eq_some_iff.1 hv;rw [←hx];exact List.set_getElem_self hl
   rw [e] at hm;exact hm
  ·rw [Env.aU];exact Zt _ _ _ _ _ _
 ·rcases aL j o hj with ⟨g1,g2,g3⟩ | ⟨rfl,rfl⟩ | ⟨rfl,rfl⟩
  ·rw [Env.aD _ _ (by omega)] at hc;rcases aL j' o' EX with ⟨Pn,Ro,Xq⟩ | ⟨rfl,rfl⟩ | ⟨rfl,rfl⟩
   ·rw [Env.aD _ _ (by omega)] at cY;exact G.sep j j' o o' c bP g3 Xq hw hc cY
   ·rw [Env.aD _ _ (by omega)] at cY;exact G.sep j _ o (.aF cs t) c bP g3 dN hw hc cY
   ·rw [Env.aU] at cY;exact DS _ _ _ cY
  ·rw [Env.aD _ _ (by omega)] at hc;rcases aL j' o' EX with ⟨Pn,Ro,Xq⟩ | ⟨rfl,rfl⟩ | ⟨rfl,rfl⟩
   ·rw [Env.aD _ _ (by omega)] at cY;exact G.sep j j' (.aF cs t) o' c bP dN Xq rfl hc cY
   ·exact absurd rfl bP
   ·rw [Env.aU] at cY;exact DS _ _ _ cY
  ·rw [Env.aU] at hc;exact DS _ _ _ hc
 ·rw [Env.aD _ _ (by omega)];exact so q hq hn
 ·simp only [hlen];omega
 ·rcases aL q o hqo with ⟨g1,g2,g3⟩ | ⟨rfl,rfl⟩ | ⟨rfl,rfl⟩
  ·exact tC q o hq g3 dS
  ·cases dS
  ·omega
theorem af.made {b0:aC} {k:List Item} {st:St cod} {Q:St cod→Prop} (h i u:Nat) (ty:TypeId) {cs:List Cell} {t:TypeId} (ho:getObj st.heap h= .aF cs t) (hi:cs[i]? =some .nil) {bg:St cod} (e:st.made h i u ty=bg) (hr:af P b0 k bg Q):af P b0 k st Q:=
 af.weaken (fun a w hR=>by rw [←e];exact Vi h i u ty ho hi hR) hr
end
end Sym
end Go.Proofs.YtcjagpfbhnmggaaGreatDoor
