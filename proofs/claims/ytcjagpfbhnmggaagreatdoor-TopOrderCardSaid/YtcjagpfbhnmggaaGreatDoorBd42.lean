/- Parts of the proof. -/
import Derived.Test.YtcjagpfbhnmggaaGreatDoorBd39
namespace Go.Proofs.YtcjagpfbhnmggaaGreatDoor
section
open Sym Go.RowKit
noncomputable section
set_option maxRecDepth 100000
set_option maxHeartbeats 4000000
namespace F
noncomputable def AF (n lo hi:Int):Int:=lo+((n.tmod (hi - lo+1)+(hi - lo+1)).tmod (hi - lo+1))
noncomputable def sites:List Sp:=[(1,-20000,0,400000,50,2),(2,30000,40000,400000,80,3)]
noncomputable def An (f:Sp):Prop:=(-60000≤f.1∧f.1≤65000)∧(-20000≤f.2.1∧f.2.1≤20000)∧(-100≤f.2.2.1∧f.2.2.1≤100)∧(-200≤f.2.2.2.1∧f.2.2.2.1≤200)∧(0≤f.2.2.2.2.1∧f.2.2.2.2.1≤20000)∧(0≤f.2.2.2.2.2∧f.2.2.2.2.2≤200)
noncomputable def fl1 (l:List Int) (k:Int):Sp:=(-60000+60000*(k.tdiv 4)+AF (l.getD k.toNat 0) 0 5000,AF (l.getD (k+1).toNat 0) (-20000) 20000,AF (l.getD (k+2).toNat 0) (-100) 100,AF (l.getD (k+3).toNat 0) (-200) 200,5000+3000*(k.tdiv 4),100+k)
noncomputable def TX (l:List Int):Nat→List Sp
 | 0=>[]
 | j+1=>TX l j++[fl1 l (4*(j:Int))]
noncomputable def jG (l:List Int):List Sp:=TX l (min 3 (l.length / 4))
noncomputable def RH (lo hi:Int):Prop:=-1000000≤lo∧lo≤hi∧hi≤1000000
end F
noncomputable def qO:bA:=[]
theorem Jm (n:Int) (lo:Int) (hi:Int):aI gQ qO Tryz.f11.results.toList 0 400 [.code (aj Tryz.f11)] ⟨ay Tryz.f11 [.c (.int .i64 n),.c (.int .i64 lo),.c (.int .i64 hi)],([]:Heap cod)⟩=
 (let q0:=Int.tmod n (hi - lo+1)+(hi - lo+1);
 .aa (ae (hi - lo)) (.aa (ae (hi - lo+1)) (.aa (hi - lo+1≠0) (.aa (ae q0) (.aa (hi - lo+1≠0) (.aa (ae (lo+Int.tmod q0 (hi - lo+1))) (.ret (.fin (.c (.int .i64 (lo+Int.tmod q0 (hi - lo+1)))) [])))))))):=by kernel_rfl
theorem ql {lo hi:Int} (n:Int) (h:lo≤hi):lo≤F.AF n lo hi∧F.AF n lo hi≤hi:=by
 unfold F.AF;have h0:0 < hi - lo+1:=by omega
 generalize hz:hi - lo+1=z at*;have a2:=Int.lt_tmod_of_pos n h0;have a4:=Int.tmod_nonneg (a:=n.tmod z+z) z (by omega);have a3:=Int.tmod_lt_of_pos (n.tmod z+z) h0;omega
theorem FA (n:Int) (lo:Int) (hi:Int) (b0:aC) (hb:b0.n=0) (h0:F.RH lo hi):Sym.af Tryz.prog b0 [.code (aj Tryz.f11)] ⟨ay Tryz.f11 [.c (.int .i64 n),.c (.int .i64 lo),.c (.int .i64 hi)],([]:Heap cod)⟩ (Sym.Ends Tryz.prog Tryz.f11 0 (.c (.int .i64 (F.AF n lo hi))) []):=by
 refine af.go (cfg:=gQ) ev mixed qO 400 hb (Jm n lo hi) ?_;have Xs:=ql n h0.2.1;obtain ⟨h1,h2,h3⟩:=h0;have h4:0 < hi - lo+1:=by omega
 have a1:=Int.tmod_lt_of_pos n h4;have a2:=Int.lt_tmod_of_pos n h4;unfold F.AF at Xs ⊢;simp only [T.wp,bF];generalize (n.tmod (hi - lo+1)+(hi - lo+1)).tmod (hi - lo+1)=w at*;generalize n.tmod (hi - lo+1)=v at*;exact ⟨by unfold ae;omega,by unfold ae;omega,by omega,by unfold ae;omega,by omega,by unfold ae;omega,by first | rfl | trivial,trivial⟩
noncomputable def tX:aH cod:=fun args H=>match args,H with
 | [.c (.int .i64 n),.c (.int .i64 lo),.c (.int .i64 hi)],[]=>.aa ((F.RH lo hi)) (.ret (.c (.int .i64 (F.AF n lo hi)),[]))
 | _,_=>.fail
theorem Ah:Sound Tryz.prog cod 11 tX:=ax (cfg:=gQ) ev mixed Tryz.func11 rfl rfl _ fun args H r news hg b0 hb=>by
 unfold tX at hg;split at hg
 ·skip
  simp only [T.ah,T.wp,Prod.mk.injEq] at hg;obtain ⟨q0,rfl,rfl⟩:=hg;exact FA _ _ _ b0 hb (by assumption)
 ·exact hg.elim
noncomputable def sS:aQ cod:=(11,.p tX)::Sg
noncomputable def su:aT cod:=c9 sS
theorem lI:cv Tryz.prog cod sS:=.cons Ah ev
noncomputable def xJ:bA:=[]
theorem VP (f:Int×Int×Int×Int×Int×Int) (t:Int):aI su xJ Tryz.f19.results.toList 0 400 [.code (aj Tryz.f19)] ⟨ay Tryz.f19 [.agg (c6.enc f),.c (.int .i64 t)],([]:Heap cod)⟩=
.aa (ae (f.2.2.1*t)) (
.aa (ae (f.1+f.2.2.1*t)) (
.aa (ae (f.2.2.2.1*t)) (
.aa (ae (f.2.1+f.2.2.2.1*t)) (
.ret (.fin (.agg [.int .i64 (f.1+f.2.2.1*t),.int .i64 (f.2.1+f.2.2.2.1*t)]) []))))):=by kernel_rfl
theorem Qr (f:Int×Int×Int×Int×Int×Int) (t:Int) (b0:aC) (hb:b0.n=0) (h0:F.An f) (h1:0≤t∧t≤20):Sym.af Tryz.prog b0 [.code (aj Tryz.f19)] ⟨ay Tryz.f19 [.agg (c6.enc f),.c (.int .i64 t)],([]:Heap cod)⟩ (Sym.Ends Tryz.prog Tryz.f19 0 (.agg [.int .i64 (f.1+f.2.2.1*t),.int .i64 (f.2.1+f.2.2.2.1*t)]) []):=by
 refine af.go (cfg:=su) lI mixed xJ 400 hb (VP f t) ?_;obtain ⟨f1,f2,f3,f4,f5,f6⟩:=h0;have k1:=dP (x:=f.2.2.1) (y:=t) (a:=100) (b:=20) (by omega) (by omega);have k2:=dP (x:=f.2.2.2.1) (y:=t) (a:=200) (b:=20) (by omega) (by omega);simp only [T.wp,bF];exact ⟨by unfold ae;omega,by unfold ae;omega,by unfold ae;omega,by unfold ae;omega,by first | rfl | trivial,trivial⟩
noncomputable def Ex:aH cod:=fun args H=>match args,H with
 | [.agg F5,.c (.int .i64 t)],[]=>(match c6.ok F5 with | true=>(fun f:Int×Int×Int×Int×Int×Int=>.aa ((F.An f)∧(0≤t∧t≤20)) (.ret (.agg [.int .i64 (f.1+f.2.2.1*t),.int .i64 (f.2.1+f.2.2.2.1*t)],[]))) (c6.dec F5) | false=>.fail)
 | _,_=>.fail
theorem Hb:Sound Tryz.prog cod 19 Ex:=ax (cfg:=su) lI mixed Tryz.func19 rfl rfl _ fun args H r news hg b0 hb=>by
 unfold Ex at hg;split at hg
 ·skip
  split at hg
  ·rename_i Uq;obtain ⟨f,rfl,TI⟩:=aO.back Uq;rw [TI] at hg
   try dsimp only at hg
   simp only [T.ah,T.wp,Prod.mk.injEq] at hg;obtain ⟨⟨q0,q1⟩,rfl,rfl⟩:=hg;exact Qr _ _ b0 hb (by assumption) (by assumption)
  ·exact hg.elim
 ·exact hg.elim
noncomputable def CL:aQ cod:=(19,.p Ex)::sS
noncomputable def Cr:aT cod:=c9 CL
theorem pH:cv Tryz.prog cod CL:=.cons Hb lI
noncomputable def uN:bA:=[]
theorem Qy:aI Cr uN Tryz.f8.results.toList 0 400 [.code (aj Tryz.f8)] ⟨ay Tryz.f8 [],([]:Heap cod)⟩=
.ret (.fin (.c (.ai 0 0 2 true)) [.arr 2 ([(1,-20000,0,400000,50,2),(2,30000,40000,400000,80,3)]) 64]):=by kernel_rfl
theorem KH (b0:aC) (hb:b0.n=0):Sym.af Tryz.prog b0 [.code (aj Tryz.f8)] ⟨ay Tryz.f8 [],([]:Heap cod)⟩ (Sym.Ends Tryz.prog Tryz.f8 0 (.c (.ai 0 0 2 true)) [.arr 2 F.sites 64]):=by
 refine af.go (cfg:=Cr) pH mixed uN 400 hb (Qy) ?_;exact ⟨rfl,rfl⟩
noncomputable def y7:aH cod:=fun args H=>match args,H with
 | [],[]=>.ret (.c (.ai 0 0 2 true),[.arr 2 F.sites 64])
 | _,_=>.fail
theorem D9:Sound Tryz.prog cod 8 y7:=ax (cfg:=Cr) pH mixed Tryz.func8 rfl rfl _ fun args H r news hg b0 hb=>by
 unfold y7 at hg;split at hg
 ·skip
  cases hg;exact KH b0 hb
 ·exact hg.elim
noncomputable def wZ:aQ cod:=(8,.p y7)::CL
noncomputable def wC:aT cod:=c9 wZ
theorem mN:cv Tryz.prog cod wZ:=.cons D9 pH
noncomputable def xN:bA:=[]
theorem V5:aI wC xN Tryz.f6.results.toList 0 400 [.code (aj Tryz.f6)] ⟨ay Tryz.f6 [],([]:Heap cod)⟩=
.ret (.fin (.agg [.int .i64 2,.int .i64 3,.int .i64 4,.int .i64 1,.int .i64 160,.int .i64 128]) []):=by kernel_rfl
theorem QL (b0:aC) (hb:b0.n=0):Sym.af Tryz.prog b0 [.code (aj Tryz.f6)] ⟨ay Tryz.f6 [],([]:Heap cod)⟩ (Sym.Ends Tryz.prog Tryz.f6 0 (.agg [.int .i64 2,.int .i64 3,.int .i64 4,.int .i64 1,.int .i64 160,.int .i64 128]) []):=by
 refine af.go (cfg:=wC) mN mixed xN 400 hb (V5) ?_;exact ⟨rfl,rfl⟩
noncomputable def EC:aH cod:=fun args H=>match args,H with
 | [],[]=>.ret (.agg [.int .i64 2,.int .i64 3,.int .i64 4,.int .i64 1,.int .i64 160,.int .i64 128],[])
 | _,_=>.fail
theorem Hi:Sound Tryz.prog cod 6 EC:=ax (cfg:=wC) mN mixed Tryz.func6 rfl rfl _ fun args H r news hg b0 hb=>by
 unfold EC at hg;split at hg
 ·skip
  cases hg;exact QL b0 hb
 ·exact hg.elim
noncomputable def CP:aQ cod:=(6,.p EC)::wZ
noncomputable def nW:aT cod:=c9 CP
theorem ju:cv Tryz.prog cod CP:=.cons Hi mN
noncomputable def gA:bA:=[(3,[0,4,3],20)]
theorem JT (l:List Int) (aA:Bool):aI nW gA Tryz.f4.results.toList 1 400 [.code (aj Tryz.f4)] ⟨ay Tryz.f4 [.c (.ai 0 0 l.length aA)],([.aB 0 l]:Heap cod)⟩=
.ret (.cut (cutAt Tryz.f4 3) ⟨bc 52 [(0,.c (.ai 0 0 l.length aA)),(2,.c (.own 2 0)),(0,.c (.int .i64 0))],[.aB 0 l,.own 2 [] 58,.own 2 [] 58]⟩):=by kernel_rfl
noncomputable def rR (l:List Int) (aA:Bool) (out:List (Int×Int×Int×Int×Int×Int)) (on:Nat) (k:Int):St cod:=⟨bc 52 [(0,.c (.ai 0 0 l.length aA)),(2,.c (.own 2 on)),(0,.c (.int .i64 k))],([.aB 0 l,.own 2 [] 58,.own 2 out 58]:Heap cod)⟩
theorem x8 (l:List Int) (aA:Bool) (out:List (Int×Int×Int×Int×Int×Int)) (on:Nat) (k:Int):aI nW gA Tryz.f4.results.toList 1 400 (cutAt Tryz.f4 3) (rR l aA out on k)=
 (let q0:=List.getD l (0+Int.toNat k) (cod 0).d;
 let q1:=List.length l;
 let q2:=List.getD l (0+Int.toNat (k+1)) (cod 0).d;
 let q3:=List.getD l (0+Int.toNat (k+2)) (cod 0).d;
 let q4:=List.getD l (0+Int.toNat (k+3)) (cod 0).d;
 .aa (ae (k+3)) (cond (decide (k+3 < Int.ofNat q1)) (cond (decide (k < 12)) (.aa ((4:Int)≠0) (.aa (ae (Int.tdiv k 4)) (.aa (ae (60000*Int.tdiv k 4)) (.aa (ae (-60000+60000*Int.tdiv k 4)) (.aa (((0:Int)≤k∧k < Int.ofNat q1)) (.aa (0+Int.toNat k < List.length l) (.aa (F.RH 0 5000) (.aa (ae (-60000+60000*Int.tdiv k 4+F.AF q0 0 5000)) (.aa (ae (k+1)) (.aa (((0:Int)≤k+1∧k+1 < Int.ofNat q1)) (.aa (0+Int.toNat (k+1) < List.length l) (.aa (F.RH (-20000) 20000) (.aa (ae (k+2)) (.aa (((0:Int)≤k+2∧k+2 < Int.ofNat q1)) (.aa (0+Int.toNat (k+2) < List.length l) (.aa (F.RH (-100) 100) (.aa (ae (k+3)) (.aa (((0:Int)≤k+3∧k+3 < Int.ofNat q1)) (.aa (0+Int.toNat (k+3) < List.length l) (.aa (F.RH (-200) 200) (.aa ((4:Int)≠0) (.aa (ae (Int.tdiv k 4)) (.aa (ae (3000*Int.tdiv k 4)) (.aa (ae (5000+3000*Int.tdiv k 4)) (.aa (ae (100+k)) (.aa (1=1) (.aa (on+1≤1000000) (.aa (ae (k+4)) (.ret (.cut (cutAt Tryz.f4 3) ⟨bc 52 [(0,.c (.ai 0 0 q1 aA)),(2,.c (.own 2 (on+1))),(0,.c (.int .i64 (k+4)))],[.aB 0 l,.own 2 [] 58,.own 2 (out++([(-60000+60000*Int.tdiv k 4+F.AF q0 0 5000,F.AF q2 (-20000) 20000,F.AF q3 (-100) 100,F.AF q4 (-200) 200,5000+3000*Int.tdiv k 4,100+k)])) 58,.arr 2 ([(-60000+60000*Int.tdiv k 4+F.AF q0 0 5000,F.AF q2 (-20000) 20000,F.AF q3 (-100) 100,F.AF q4 (-200) 200,5000+3000*Int.tdiv k 4,100+k)]) 58]⟩)))))))))))))))))))))))))))))) (.ret (.fin (.c (.own 1 (on))) [.own 2 out 58]))) (.ret (.fin (.c (.own 1 (on))) [.own 2 out 58])))):=by kernel_rfl
theorem Dn (l:List Int):∀j,(F.TX l j).length=j
 | 0=>rfl
 | j+1=>by unfold F.TX;rw [List.length_append,Dn l j];rfl
theorem M5 (l:List Int):(F.jG l).length≤3:=by
 unfold F.jG;rw [Dn];omega
theorem ab8 (l:List Int) (j:Nat) (h:j < 3):F.An (F.fl1 l (4*(j:Int))):=by
 have e:(4*(j:Int)).tdiv 4=j:=Int.mul_tdiv_cancel_left _ (by decide);have a1:=ql (lo:=0) (hi:=5000) (l.getD (4*(j:Int)).toNat 0) (by decide);have a2:=ql (lo:=-20000) (hi:=20000) (l.getD (4*(j:Int)+1).toNat 0) (by decide);have a3:=ql (lo:=-100) (hi:=100) (l.getD (4*(j:Int)+2).toNat 0) (by decide);have a4:=ql (lo:=-200) (hi:=200) (l.getD (4*(j:Int)+3).toNat 0) (by decide);unfold F.fl1;rw [e];exact ⟨by dsimp only;omega,a2,a3,a4,by dsimp only;omega,by dsimp only;omega⟩
theorem TY (l:List Int):∀(j:Nat),j≤3→∀f∈F.TX l j,F.An f
 | 0,_,f,h=>by cases h
 | j+1,hj,f,h=>by
   unfold F.TX at h;rcases List.mem_append.1 h with h | h
   ·exact TY l j (by omega) f h
   ·rw [List.mem_singleton.1 h];exact ab8 l j (by omega)
theorem T1 (l:List Int):∀f∈F.jG l,F.An f:=TY l _ (by omega)
theorem JS (l:List Int) (aA:Bool) (b0:aC) (hb:b0.n=1):∀(q j:Nat),j+q=min 3 (l.length / 4)→
 Sym.af Tryz.prog b0 (cutAt Tryz.f4 3) (rR l aA (F.TX l j) j (4*(j:Int))) (Sym.Ends Tryz.prog Tryz.f4 1 (.c (.own 1 (F.jG l).length)) [.own 2 (F.jG l) 58]):=by
 intro q
 induction q with
 | zero=>
   intro j hj;have e:F.TX l j=F.jG l:=by unfold F.jG;rw [show j=min 3 (l.length / 4) by omega]
   have e2:(F.jG l).length=j:=by rw [←e,Dn]
   rw [e];refine af.go (cfg:=nW) ju mixed gA 400 hb (x8 l aA (F.jG l) j (4*(j:Int))) ?_;rw [e2];simp only [T.wp,T.wp_cond,bF];refine ⟨by unfold ae;omega,?_⟩;by_cases c:4*(j:Int)+3 < Int.ofNat l.length
   ·have c':4*(j:Int)+3 < l.length:=c;exact aq (decide_eq_true c) (ap (by rw [decide_eq_false (by omega)];decide) (by first | exact ⟨rfl,rfl⟩ | exact ⟨rfl,trivial⟩ | exact ⟨trivial,rfl⟩ | exact ⟨trivial,trivial⟩))
   ·exact ap (by rw [decide_eq_false c];decide) (by first | exact ⟨rfl,rfl⟩ | exact ⟨rfl,trivial⟩ | exact ⟨trivial,rfl⟩ | exact ⟨trivial,trivial⟩)
 | succ q ih=>
   intro j hj;have nx:=ih (j+1) (by omega);have e1:F.TX l (j+1)=F.TX l j++[F.fl1 l (4*(j:Int))]:=rfl;have e2:4*(((j+1:Nat)):Int)=4*(j:Int)+4:=by omega
   rw [e1,e2] at nx;have hlen:4*(j:Int)+3 < l.length:=by omega
   have e:(4*(j:Int)).tdiv 4=j:=Int.mul_tdiv_cancel_left _ (by decide);have a1:=ql (lo:=0) (hi:=5000) (l.getD (4*(j:Int)).toNat 0) (by decide);have ed:(cod 0).d=(0:Int):=rfl;have i0:(0:Int)≤4*(j:Int)∧4*(j:Int) < Int.ofNat l.length:=by simp only [Int.ofNat_eq_natCast];omega
   have i1:(0:Int)≤4*(j:Int)+1∧4*(j:Int)+1 < Int.ofNat l.length:=by simp only [Int.ofNat_eq_natCast];omega
   have i2:(0:Int)≤4*(j:Int)+2∧4*(j:Int)+2 < Int.ofNat l.length:=by simp only [Int.ofNat_eq_natCast];omega
   have i3:(0:Int)≤4*(j:Int)+3∧4*(j:Int)+3 < Int.ofNat l.length:=by simp only [Int.ofNat_eq_natCast];omega
   unfold F.fl1 at nx;refine af.go (cfg:=nW) ju mixed gA 400 hb (x8 l aA (F.TX l j) j (4*(j:Int))) ?_;simp only [T.wp,T.wp_cond,bF,Nat.zero_add];rw [ed];have hw:F.RH 0 5000∧F.RH (-20000) 20000∧F.RH (-100) 100∧F.RH (-200) 200:=by unfold F.RH;decide
   refine ⟨by unfold ae;omega,aq (decide_eq_true i3.2) (aq (decide_eq_true (by omega)) ?_)⟩;have t0:ae ((4*(j:Int)).tdiv 4):=by rw [e];unfold ae;omega
   have t1:ae (60000*(4*(j:Int)).tdiv 4):=by rw [e];unfold ae;omega
   have t2:ae (-60000+60000*(4*(j:Int)).tdiv 4):=by rw [e];unfold ae;omega
   have t3:ae (-60000+60000*(4*(j:Int)).tdiv 4+F.AF (l.getD (4*(j:Int)).toNat 0) 0 5000):=by rw [e];unfold ae;omega
   have t4:ae (3000*(4*(j:Int)).tdiv 4):=by rw [e];unfold ae;omega
   have t5:ae (5000+3000*(4*(j:Int)).tdiv 4):=by rw [e];unfold ae;omega
   have t6:∀c:Int,0≤c→c≤200→ae (4*(j:Int)+c):=fun c c1 c2=>by unfold ae;omega
   have t7:ae (100+4*(j:Int)):=by unfold ae;omega
   refine ⟨by decide,t0,t1,t2,i0,by omega,hw.1,t3,t6 1 (by decide) (by decide),i1,by omega,hw.2.1,t6 2 (by decide) (by decide),i2,by omega,hw.2.2.1,t6 3 (by decide) (by decide),i3,by omega,hw.2.2.2,by decide,t0,t4,t5,t7,trivial,by omega,t6 4 (by decide) (by decide),?_⟩;exact af.iW [0,1,2] 4 hb (by decide) rfl rfl rfl nx
theorem Gd (l:List Int) (aA:Bool) (b0:aC) (hb:b0.n=1):Sym.af Tryz.prog b0 [.code (aj Tryz.f4)] ⟨ay Tryz.f4 [.c (.ai 0 0 l.length aA)],([.aB 0 l]:Heap cod)⟩ (Sym.Ends Tryz.prog Tryz.f4 1 (.c (.own 1 (F.jG l).length)) [.own 2 (F.jG l) 58]):=by
 refine af.go (cfg:=nW) ju mixed gA 400 hb (JT l aA) ?_;have run:=JS l aA b0 hb (min 3 (l.length / 4)) 0 (by omega);exact run
noncomputable def ua:aH cod:=fun args H=>match args,H with
 | [.c (.ai 0 cF cA _)],[o0]=>(match o0.cV 0 with | some l=>.aa ((cF=0∧cA=List.length l)) (.ret (.c (.own 1 (F.jG l).length),[.own 2 (F.jG l) 58])) | none=>.fail)
 | _,_=>.fail
theorem Ao:Sound Tryz.prog cod 4 ua:=ax (cfg:=nW) ju mixed Tryz.func4 rfl rfl _ fun args H r news hg b0 hb=>by
 unfold ua at hg;split at hg
 ·skip
  split at hg
  ·rename_i l gG;cases aR gG;simp only [T.ah,T.wp,Prod.mk.injEq] at hg;obtain ⟨⟨rfl,rfl⟩,rfl,rfl⟩:=hg;exact Gd _ _ b0 hb
  ·exact hg.elim
 ·exact hg.elim
noncomputable def AP:aQ cod:=(4,.p ua)::CP
theorem CE:cv Tryz.prog cod AP:=.cons Ao ju
end
end
section
open Sym
namespace F
noncomputable def rpl (s t:Sp):Sp:=(s.1,t.1,root (iw s.2.1 s.2.2.1 t.2.1 t.2.2.1),OA s.2.1 s.2.2.1 t.2.1 t.2.2.1,t.2.2.2.1,t.2.2.2.2.1)
noncomputable def Vz (s t:Sp):Prop:=va s=0∧RD t=0∧iw s.2.1 s.2.2.1 t.2.1 t.2.2.1≤s.2.2.2.1*s.2.2.2.1
noncomputable def spt (f:Sp) (time:Int):Sp:=(time,f.1+f.2.2.1*time,f.2.1+f.2.2.2.1*time,f.2.2.2.2.1,f.2.2.2.2.2,0)
noncomputable def Ij (time:Int) (s f:Sp):Sp:=rpl s (spt f time)
noncomputable def fF (l fs:List Sp) (time:Int):List (List Sp):=l.map fun s=>fs.map (Ij time s)
noncomputable def seen (l fs:List Sp) (time:Int):List Sp:=E0 l (vF (fF l fs time)) []
noncomputable def iJ (l fs:List Sp) (time:Int):Prop:=l=sites∧fs.length≤3∧(∀f∈fs,An f)∧(0≤time∧time≤12)
end F
theorem Mc:F.rA F.sites=0:=by decide+kernel
theorem dy {s:F.Sp} (h:s∈F.sites):s=(1,-20000,0,400000,50,2)∨s=(2,30000,40000,400000,80,3):=by
 unfold F.sites at h;simpa using h
theorem WY {f:F.Sp} {time:Int} (hf:F.An f) (ht:0≤time∧time≤12):(-61200≤(F.spt f time).2.1∧(F.spt f time).2.1≤66200)∧(-22400≤(F.spt f time).2.2.1∧(F.spt f time).2.2.1≤22400):=by
 obtain ⟨f1,f2,f3,f4,f5,f6⟩:=hf;have k1:=dP (x:=f.2.2.1) (y:=time) (a:=100) (b:=12) (by omega) (by omega);have k2:=dP (x:=f.2.2.2.1) (y:=time) (a:=200) (b:=12) (by omega) (by omega);show (-61200≤f.1+f.2.2.1*time∧f.1+f.2.2.1*time≤66200)∧(-22400≤f.2.1+f.2.2.2.1*time∧f.2.1+f.2.2.2.1*time≤22400);omega
theorem N7 {a b c d e f:Int} (h1:0≤a∧a≤200000) (h2: -1000000≤b∧b≤1000000) (h3: -1000000≤c∧c≤1000000) (h4:0≤d∧d≤60000) (h5: -1≤e∧e≤4095) (h6:0≤f∧f≤1000000):F.spot a b c d e f=0:=by
 unfold F.spot F.cP;rw [bN.2 h1,bN.2 h2,bN.2 h3,bN.2 h4,bN.2 h5,bN.2 h6];rfl
theorem ZH {a b c d e f:Int} (h1:0≤a∧a≤255) (h2:0≤b∧b≤200000) (h3:0≤c∧c≤2000000) (h4:0≤d∧d≤4095) (h5:0≤e∧e≤60000) (h6: -1≤f∧f≤4095):F.qa a b c d e f=0:=by
 unfold F.qa;rw [bN.2 h1,bN.2 h2,bN.2 h3,bN.2 h4,bN.2 h5,bN.2 h6];rfl
theorem TS {s:F.Sp} (hs:s∈F.sites) {x y:Int} (hx: -61200≤x∧x≤66200) (hy: -22400≤y∧y≤22400):0≤F.iw s.2.1 s.2.2.1 x y∧F.iw s.2.1 s.2.2.1 x y≤20000000000:=by
 have h1: -100000≤s.2.1 - x∧s.2.1 - x≤100000:=by rcases dy hs with rfl | rfl<;>dsimp only<;>omega
 have h2: -100000≤s.2.2.1 - y∧s.2.2.1 - y≤100000:=by rcases dy hs with rfl | rfl<;>dsimp only<;>omega
 have q1:=rO h1;have q2:=rO h2;unfold F.iw;omega
theorem ZN {n:Int} (h:0≤n∧n≤20000000000):0≤F.root n∧F.root n≤200000:=by
 obtain ⟨r1,r2,r3,_⟩:=BZ (n:=n) h.1 (by omega);refine ⟨r1,?_⟩;by_cases c:F.root n≤200000
 ·exact c
 ·exfalso;have:(200001:Int)*200001≤F.root n*F.root n:=Int.mul_le_mul (by omega) (by omega) (by decide) r1;omega
theorem VA {s f:F.Sp} {time:Int} (hs:s∈F.sites) (hf:F.An f) (ht:0≤time∧time≤12):F.Vz s (F.spt f time):=by
 obtain ⟨b1,b2⟩:=WY hf ht;obtain ⟨f1,f2,f3,f4,f5,f6⟩:=hf;have fb:=TS hs b1 b2;refine ⟨?_,N7 (by show 0≤time∧time≤200000;omega) (by omega) (by omega) (by show 0≤f.2.2.2.2.1∧f.2.2.2.2.1≤60000;omega) (by show -1≤f.2.2.2.2.2∧f.2.2.2.2.2≤4095;omega) (by show (0:Int)≤0∧(0:Int)≤1000000;decide),?_⟩
 ·rcases dy hs with rfl | rfl<;>decide+kernel
 ·have:s.2.2.2.1*s.2.2.2.1=160000000000:=by rcases dy hs with rfl | rfl<;>rfl
  omega
noncomputable def F.DV (time:Int) (p:F.Sp):Prop:=(p.1=1∨p.1=2)∧p.2.1=time∧(0≤p.2.2.1∧p.2.2.1≤200000)∧(0≤p.2.2.2.1∧p.2.2.2.1≤4095)∧(0≤p.2.2.2.2.1∧p.2.2.2.2.1≤20000)∧(0≤p.2.2.2.2.2∧p.2.2.2.2.2≤200)
theorem ado {s f:F.Sp} {time:Int} (hs:s∈F.sites) (hf:F.An f) (ht:0≤time∧time≤12):F.DV time (F.Ij time s f):=by
 obtain ⟨b1,b2⟩:=WY hf ht;obtain ⟨f1,f2,f3,f4,f5,f6⟩:=hf;have rb:=ZN (TS hs b1 b2);have az:=abI s.2.1 s.2.2.1 (F.spt f time).2.1 (F.spt f time).2.2.1;refine ⟨?_,rfl,rb,⟨az.1,?_⟩,f5,f6⟩
 ·rcases dy hs with rfl | rfl
  ·exact .inl rfl
  ·exact .inr rfl
 ·show F.OA _ _ _ _≤4095;omega
theorem NN {time:Int} {p:F.Sp} (ht:0≤time∧time≤12) (h:F.DV time p):F.RA p=0:=by
 obtain ⟨h1,h2,h3,h4,h5,h6⟩:=h;exact ZH (by omega) (by omega) (by omega) h4 (by omega) (by omega)
theorem Bu {l fs:List F.Sp} {time:Int} (ho:F.iJ l fs time) {r:List F.Sp} (h:r∈F.fF l fs time):r.length=fs.length∧∀p∈r,F.DV time p:=by
 obtain ⟨o1,o2,o3,o4⟩:=ho;obtain ⟨s,hs,rfl⟩:=List.mem_map.1 h;refine ⟨List.length_map ..,fun p hp=>?_⟩;obtain ⟨f,hf,rfl⟩:=List.mem_map.1 hp;exact ado (by rw [←o1];exact hs) (o3 f hf) o4
theorem VO {r:List F.Sp} {time:Int} (ht:0≤time∧time≤12) (h:∀p∈r,F.DV time p):∀(q i:Nat),i+q=r.length→F.RB r q i=0
 | 0,_,_=>rfl
 | q+1,i,hi=>by
   unfold F.RB;have h1:=h _ (dM (l:=r) (i:=i) (by omega));rw [if_neg (fun c=>c (NN ht h1)),if_neg]
   ·exact VO ht h q (i+1) (by omega)
   ·rintro ⟨c1,c2⟩;have h2:=h _ (dM (l:=r) (i:=i - 1) (by omega));rw [h1.2.1,h2.2.1] at c2;omega
theorem Vm {f:List (List F.Sp)} (h:∀r∈f,F.YB r=0):∀(q j:Nat),j+q=f.length→F.mgF f q j=0
 | 0,_,_=>rfl
 | q+1,j,hj=>by
   unfold F.mgF;have hjl:j < f.length:=by omega
   have:F.YB (f.getD j [])=0:=by
    rw [List.getD_eq_getElem?_getD,List.getElem?_eq_getElem hjl];exact h _ (List.getElem_mem hjl)
   rw [if_neg (fun c=>c this)];exact Vm h q (j+1) (by omega)
theorem O7 {l fs:List F.Sp} {time:Int} (ho:F.iJ l fs time):(F.fF l fs time).length=2:=by
 rw [ho.1];rfl
theorem O6 {l fs:List F.Sp} {time:Int} (ho:F.iJ l fs time):F.Ih (F.fF l fs time)=0:=by
 unfold F.Ih;rw [if_neg (by rw [O7 ho];decide)];refine Vm (fun r hr=>?_) _ 0 (by omega);obtain ⟨h1,h2⟩:=Bu ho hr;unfold F.YB;rw [if_neg (by have:=ho.2.1;omega)];exact VO ho.2.2.2 h2 _ 0 (by omega)
theorem Xh:∀(l acc:List F.Sp) (p:F.Sp),p∈F.uq acc l→p∈acc∨p∈l
 | [],acc,p,h=>.inl h
 | x::r,acc,p,h=>by
   unfold F.uq at h;rcases Xh r _ p h with h | h
   ·split at h
    ·exact .inl h
    ·rcases List.mem_append.1 h with h | h
     ·exact .inl h
     ·exact .inr (by rw [List.mem_singleton.1 h];exact List.mem_cons_self ..)
   ·exact .inr (List.mem_cons_of_mem _ h)
theorem MD:∀(l acc:List F.Sp),acc.length≤(F.uq acc l).length∧(F.uq acc l).length≤acc.length+l.length
 | [],acc=>⟨Nat.le_refl _,Nat.le_refl _⟩
 | x::r,acc=>by
   unfold F.uq;have:=MD r (if acc.getLast?=some x then acc else acc++[x]);rw [List.length_cons];split at this
   ·rename_i h;rw [if_pos h];omega
   ·rename_i h;rw [if_neg h];rw [List.length_append,List.length_singleton] at this;omega
theorem Xd {l:List F.Sp} (h:0 < l.length):0 < (F.iX l).length:=by
 match l,h with
 | x::r,_=>
   have:=(MD r [x]).1;have e:F.iX (x::r)=F.uq [x] r:=rfl;rw [e];exact Nat.lt_of_lt_of_le (by simp) this
theorem Zl {f:List (List F.Sp)} {p:F.Sp} (h:p∈F.vF f):∃r∈f,p∈r:=by
 unfold F.vF F.iX at h;rcases Xh _ _ _ h with h | h
 ·cases h
 ·have:=(l8 f.flatten).mem_iff.1 h;exact List.mem_flatten.1 this
theorem jF {fs:List F.Sp} {time:Int} (l:List F.Sp):(F.fF l fs time).flatten.length=l.length*fs.length:=by
 unfold F.fF
 induction l with
 | nil=>simp
 | cons s l ih=>
   rw [List.map_cons,List.flatten_cons,List.length_append,ih,List.length_map,List.length_cons,Nat.add_mul,Nat.one_mul,Nat.add_comm]
theorem tz {l fs:List F.Sp} {time:Int} (ho:F.iJ l fs time):(F.vF (F.fF l fs time)).length≤6:=by
 unfold F.vF F.iX;have h:=(MD (F.gM (F.fF l fs time).flatten) []).2;have e:l.length=2:=by rw [ho.1];rfl
 rw [oC,jF,e] at h;have:=ho.2.1;rw [List.length_nil] at h;omega
theorem Ga {l fs:List F.Sp} {time:Int} (ho:F.iJ l fs time):∀p∈F.vF (F.fF l fs time),F.DV time p:=fun p hp=>by
 obtain ⟨r,h1,h2⟩:=Zl hp;exact (Bu ho h1).2 p h2
theorem JQ {l fs:List F.Sp} {time:Int} (ho:F.iJ l fs time):F.DU (F.vF (F.fF l fs time)):=
 ⟨by have:=tz ho;omega,fun p hp=>NN ho.2.2.2 (Ga ho p hp)⟩
theorem Kv (f:List (List F.Sp)):(F.rB f).take (F.vF f).length=F.vF f:=by
 unfold F.rB F.vF F.nS;exact List.take_left
end
end Go.Proofs.YtcjagpfbhnmggaaGreatDoor
